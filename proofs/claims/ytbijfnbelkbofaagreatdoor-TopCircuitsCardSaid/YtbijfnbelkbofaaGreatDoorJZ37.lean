/-
  Lemmas for the law TopCircuits.
-/
import Derived.Test.YtbijfnbelkbofaaGreatDoorJZ36
import Derived.Test.YtbijfnbelkbofaaGreatDoorJZ22
import Derived.Test.YtbijfnbelkbofaaGreatDoorJZ24
import Derived.Laws.EntriesVeiled
set_option linter.unusedSimpArgs false
set_option linter.unusedVariables false
namespace Go.Proofs.YtbijfnbelkbofaaGreatDoor
open Go.RowKit
theorem rowsK_at {t:KT.Tab} {ins:List Int} {l:List KT.Rw} {i:Nat} (h:i < l.length):KT.rowsK t ins (l.drop i)=match KT.decideK t (l.getD i default) ins with | some s=>some s | none=>KT.rowsK t ins (l.drop (i+1)):=by
 have hd:l.getD i default=l[i]:=by rw [List.getD_eq_getElem?_getD,List.getElem?_eq_getElem h];rfl
 rw [hd,List.drop_eq_getElem_cons h,KT.rowsK]
 cases KT.decideK t l[i] ins <;> rfl
theorem next_bad {t:KT.Tab} {ins:List Int} (h:¬ (KT.rightK t=true∧ins.length=t.hood.length)):KT.nextErr t ins=2∧KT.nextK t ins=0:=by
 have h2:KT.nextErr t ins=2:=by unfold KT.nextErr;rw [if_neg h]
 exact ⟨h2,by unfold KT.nextK;rw [h2];rfl⟩
theorem next_out {t:KT.Tab} {ins:List Int} (h:KT.rightK t=true∧ins.length=t.hood.length) (hs:ins.all (KT.stOk t)=false):KT.nextErr t ins=10∧KT.nextK t ins=0:=by
 have h2:KT.nextErr t ins=10:=by unfold KT.nextErr;rw [if_pos h,hs];rfl
 exact ⟨h2,by unfold KT.nextK;rw [h2];rfl⟩
theorem next_ok {t:KT.Tab} {ins:List Int} (h:KT.rightK t=true∧ins.length=t.hood.length) (hs:ins.all (KT.stOk t)=true):KT.nextErr t ins=0∧KT.nextK t ins=KT.valueK t ins:=by
 have h2:KT.nextErr t ins=0:=by unfold KT.nextErr;rw [if_pos h,if_pos hs]
 exact ⟨h2,by unfold KT.nextK;rw [if_pos h2]⟩
structure RightP (t:KT.Tab):Prop where
 s2:2≤t.states
 s8:t.states≤8
 hood:hoodOk t.hood=true
 per:KT.permitsK t.hood t.sym=true
 v40:t.vars.length≤40
 r400:t.rows.length≤400
 rows:∀ i,i < t.rows.length→KT.rowOk t (t.rows.getD i default)=true
theorem rightP {t:KT.Tab} (h:KT.rightK t=true):RightP t:=by
 unfold KT.rightK KT.headK at h;simp only [Bool.and_eq_true,decide_eq_true_eq,List.all_eq_true] at h;obtain ⟨⟨⟨a,b⟩,c,d,e,f⟩,_,g⟩:=h;exact ⟨a,b,c,d,e,f,fun i hi=>g _ (by rw [List.getD_eq_getElem?_getD,List.getElem?_eq_getElem hi];exact List.getElem_mem hi)⟩
set_option maxRecDepth 100000 in
set_option maxHeartbeats 4000000 in
theorem next_any (t:KT.Tab) (P:TP) (ins:List Int) (IA:Option Addr) (n ic:Nat) (w:World) (h:TabAt w t P) (hmat:MatAt w) (hi:Rd w w.heap.size 1 IA n (ints ins)) (hm:n≤maxLen):
 Calls Tryz.prog 71 #[.agg #[.int .i64 t.states,.int .i64 t.sym,.slice P.HA P.hn P.hc,.slice P.VA P.vn P.vc,.slice P.RA P.rn P.rc],.slice IA n ic] w fun e w'=>e=.returned (.tuple #[.int .i64 (KT.nextK t ins),.int .i64 (KT.nextErr t ins)])∧Below w.heap.size w w':=by
 have HR:=hiD (right_any t P);have HSt:=hiD (states_any t P IA n ic ins);obtain ⟨HA,hn,hc,VA,vn,vc,RA,rn,rc,vs,rs⟩:=P;dsimp only at HR HSt;dsimp only;have H:=hiD h;have HM:=hiD hmat;have HI:=hiD hi;have HHL:=hiD (show t.hood.length=hn from h.hl);have HRL:=hiD (show t.rows.length=rn from h.rl);have hr63:rn≤maxLen:=h.r63;have HLI:Hid (ins.length=n):=by have:=hi.1;show _=_;simpa using this
 clear h hmat hi;go_enter Tryz.func71,Tryz.ntmps71;go_upto_region 1 with fail
 have RT1:Hid (Row (World.alloc w (.cells #[.int .i64 t.states,.int .i64 t.sym,.slice HA hn hc,.slice VA vn vc,.slice RA rn rc] 60)) (w.heap.size) 60 [.int .i64 t.states,.int .i64 t.sym,.slice HA hn hc,.slice VA vn vc,.slice RA rn rc]):=by
  have h0:=Row.new w 60 [.int .i64 t.states,.int .i64 t.sym,.slice HA hn hc,.slice VA vn vc,.slice RA rn rc]
  try simp only [World.size_alloc] at h0
  exact h0
 have HW9:Hid (Below w.heap.size w (World.alloc w (.cells #[.int .i64 t.states,.int .i64 t.sym,.slice HA hn hc,.slice VA vn vc,.slice RA rn rc] 60))):=by show Below _ _ _;go_grown
 revert RT1 HW9;generalize (World.alloc w (.cells #[.int .i64 t.states,.int .i64 t.sym,.slice HA hn hc,.slice VA vn vc,.slice RA rn rc] 60))=w1;intro RT1 HW9;obtain ⟨k0,k1,k2,k3,k4,kl⟩:=RT1.out.cells5;have HC:=HR.out w1 (H.out.up HW9.out) (HM.out.up HW9.out)
 cases hrt:KT.rightK t with
 | false=>
  rw [hrt] at HC;have HF:=hiD (next_bad (t:=t) (ins:=ins) (by rw [hrt];simp));have HC:=hiD HC;clear hrt;go_wp2_with fail;refine HC.out.mono ?_;rintro e w2 ⟨rfl,hb2⟩;have HB2:Hid (Below w.heap.size w w2):=HW9.out.trans (hb2.mono HW9.out.size);have HE:Hid (∀ _:Unit,KT.nextErr t ins=2∧KT.nextK t ins=0):=fun _=>HF.out
  go_wp2;go_ret2;rw [(HE.out ()).1,(HE.out ()).2];exact ⟨rfl,HB2.out⟩
 | true=>
 rw [hrt] at HC;have HRT:=hiD hrt;have HRP:=hiD (rightP hrt);have HC:=hiD HC;clear hrt;go_wp2_with fail;refine HC.out.mono ?_;rintro e w2 ⟨rfl,hb2⟩;have HB2:Hid (Below w.heap.size w w2):=HW9.out.trans (hb2.mono HW9.out.size)
 have RT2:=(show Hid (Row _ _ _ _) from rowCells RT1.out hb2)
 clear hb2 RT1 HC HW9 k0 k1 k2 k3 k4 kl;obtain ⟨k0,k1,k2,k3,k4,kl⟩:=RT2.out.cells5
 cases c1:((n:Int) != (hn:Int)) with
 | true=>
  have HF:=hiD (next_bad (t:=t) (ins:=ins) (fun h=>by have:=bne_iff_ne.1 c1;rw [HLI.out,HHL.out] at h;omega));have HE:Hid (∀ _:Unit,KT.nextErr t ins=2∧KT.nextK t ins=0):=fun _=>HF.out
  go_wp2;go_ret2;rw [(HE.out ()).1,(HE.out ()).2];exact ⟨rfl,HB2.out⟩
 | false=>
 have hnn:n=hn:=by
  have:(n:Int)=hn:=by simpa using c1
  omega
 subst hnn;have HC:=HSt.out w2 (HI.out.up HB2.out) hm
 cases hall:ins.all (KT.stOk t) with
 | false=>
  rw [hall] at HC;have HF:=hiD (next_out (t:=t) (ins:=ins) ⟨HRT.out,by rw [HLI.out,HHL.out]⟩ hall);have HC:=hiD HC;clear hall;go_wp2_with fail;refine HC.out.mono ?_;rintro e w3 ⟨rfl,hb3⟩;have HB3:Hid (Below w.heap.size w w3):=HB2.out.trans (hb3.mono HB2.out.size);have HE:Hid (∀ _:Unit,KT.nextErr t ins=10∧KT.nextK t ins=0):=fun _=>HF.out
  go_wp2;go_ret2;rw [(HE.out ()).1,(HE.out ()).2];exact ⟨rfl,HB3.out⟩
 | true=>
 rw [hall] at HC;have HF:=hiD (next_ok (t:=t) (ins:=ins) ⟨HRT.out,by rw [HLI.out,HHL.out]⟩ hall);have HST:=hiD (KT.stOk_all hall HRP.out.s2);have HC:=hiD HC;clear hall;go_wp2_with fail;refine HC.out.mono ?_;rintro e w3 ⟨rfl,hb3⟩;have HB3:Hid (Below w.heap.size w w3):=HB2.out.trans (hb3.mono HB2.out.size)
 have RT3:=(show Hid (Row _ _ _ _) from rowCells RT2.out hb3)
 clear hb3 RT2 HC HB2 c1 k0 k1 k2 k3 k4 kl;obtain ⟨k0,k1,k2,k3,k4,kl⟩:=RT3.out.cells5;go_wp2;clear k0 k1 k2 k3 k4 kl
 go_loopg [7,8,9,29] rn (fun gg _ _ _ s29 wr=>∃ i:Nat,i≤rn∧rn - i≤gg∧s29=.int .i64 (i:Int)∧Aside (Below w3.heap.size w3 wr∧KT.rowsK t ins t.rows=KT.rowsK t ins (t.rows.drop i)))
 case atStart=>exact ⟨0,by omega,by omega,rfl,Below.refl _ _,rfl⟩
 case round=>
  obtain ⟨i,hi,hgg,rfl,hv⟩:=hrel;have BW:=hiD hv.out.1;have HRK:=hiD hv.out.2;clear hv;have HBr:=hiD (below_on2 HB3.out BW.out)
  have RTr:=(show Hid (Row _ _ _ _) from rowCells RT3.out BW.out)
  obtain ⟨k0,k1,k2,k3,k4,kl⟩:=RTr.out.cells5;by_cases hlt:i < rn
  ·have hltz:(i:Int) < (rn:Int):=by omega
   obtain ⟨ad,hra,hb,g0,g1,hrd,hql,hll⟩:=(H.out.up HBr.out).rowAt hlt;dsimp only at hra g0 g1 hrd hql hll;subst hra;have HRW:=hiD (HRP.out.rows i (by rw [HRL.out];exact hlt));have HRS:Hid (KT.rowsK t ins (t.rows.drop i)=match KT.decideK t (t.rows.getD i default) ins with | some s=>some s | none=>KT.rowsK t ins (t.rows.drop (i+1))):=rowsK_at (by rw [HRL.out];exact hlt);revert g0 g1 hrd hql hll HRW HRS;generalize t.rows.getD i default=R;generalize rs.getD i default=q;obtain ⟨qa,ql,qc⟩:=q;intro g0 g1 hrd hql hll HRW HRS;dsimp only at g0 g1 hrd hql hll;obtain ⟨p1,p2,p3,p4⟩:=KT.rowOk_parts HRW.out;have hqn:ql=n:=by rw [← hll,p1];exact HHL.out
   subst hqn;have HDC:=hiD (fun W=>decide_any t ⟨HA,ql,hc,VA,vn,vc,some ad,rn,rc,vs,rs⟩ R ins qa IA qc ql ic W);dsimp only at HDC
   obtain ⟨ro,hro⟩:∃ ro,R.out=ro:=⟨_,rfl⟩
   rw [hro] at g1 HDC;have HRD:=hiD hrd;have HP2:Hid (KT.elemOk t ro=true):=hro ▸ p2
   have HP4:=hiD p4;clear hrd p1 p2 p3 p4 hll HRW hql;have RB5:Hid (Row (World.alloc wr (.cells #[.slice qa ql qc,.int .i64 ro] 179)) wr.heap.size 179 [.slice qa ql qc,.int .i64 ro]):=Row.new wr _ [.slice qa ql qc,.int .i64 ro];have HB5:Hid (Below wr.heap.size wr (World.alloc wr (.cells #[.slice qa ql qc,.int .i64 ro] 179))):=(Below.refl _ _).alloc (Nat.le_refl _) _;have RT5:Hid (Row (World.alloc wr (.cells #[.slice qa ql qc,.int .i64 ro] 179)) w.heap.size 60 [.int .i64 t.states,.int .i64 t.sym,.slice HA ql hc,.slice VA vn vc,.slice (some ad) rn rc]):=RTr.out.alloc _;go_upto_region 8 with fail;clear g0 g1 k0 k1 k2 k3 k4 kl;revert RB5 HB5 RT5;generalize (World.alloc wr (.cells #[.slice qa ql qc,.int .i64 ro] 179))=w5;intro RB5 HB5 RT5;obtain ⟨j0,j1,jl⟩:=RB5.out.cells2;obtain ⟨k0,k1,k2,k3,k4,kl⟩:=RT5.out.cells5;have HBw:=hiD (below_on2 HBr.out HB5.out);have HC:=hiD (HDC.out w5 (H.out.up HBw.out) (HM.out.up HBw.out) (HRD.out.up HB5.out) (HI.out.up HBw.out) HHL.out HRP.out.hood HRP.out.per HRP.out.v40 HP4.out HP2.out HST.out HRP.out.s8);clear HDC;revert HC HRS;generalize KT.decideK t R ins=d;intro HRS HC;go_wp2_with fail;refine HC.out.mono ?_;rintro e w6 ⟨he2,hb6⟩;have he3:e=.returned (.tuple #[.int .i64 (d.getD 0),.bool d.isSome]):=he2;subst he3;have HB6:=hiD (below_on2 HBw.out hb6);have HN6:Hid (Below w3.heap.size w3 w6):=below_on2 BW.out (below_on2 HB5.out hb6);clear he2 hb6 HC j0 j1 jl k0 k1 k2 k3 k4 kl
   cases d with
   | some s=>
    have HV:Hid (KT.valueK t ins=s):=by show _=_;unfold KT.valueK;rw [HRK.out,HRS.out]
    have HE:Hid (∀ _:Unit,KT.nextErr t ins=0∧KT.nextK t ins=s):=fun _=>⟨HF.out.1,HF.out.2.trans HV.out⟩
    go_wp2;go_ret2;rw [(HE.out ()).1,(HE.out ()).2];exact ⟨rfl,HB6.out⟩
   | none=>
    have hr4:rn≤400:=HRL.out ▸ HRP.out.r400
    have HRN:Hid (KT.rowsK t ins t.rows=KT.rowsK t ins (t.rows.drop (i+1))):=HRK.out.trans HRS.out;go_wp2;go_roundg (rn - (i+1))
    case measure=>omega
    case rel=>exact ⟨i+1,by omega,by omega,by go_num,HN6.out,HRN.out⟩
  ·have hltz:¬ (i:Int) < (rn:Int):=by omega
   have hin:i=t.rows.length:=by rw [HRL.out];omega
   rw [hin,List.drop_of_length_le (Nat.le_refl _)] at HRK;have HV:Hid (KT.valueK t ins=if 0≤KT.centreK t.hood then ins.getD (KT.centreK t.hood).toNat 0 else 0):=by show _=_;unfold KT.valueK;rw [HRK.out];rfl
   have HC:=hiD (centre_any t.hood HA n hc wr (H.out.up HBr.out).hood hm);have HCB:Hid (0≤KT.centreK t.hood→(KT.centreK t.hood).toNat < n):=fun h0=>HHL.out ▸ KT.centre_lt h0
   clear hin;revert HC HCB HV;generalize KT.centreK t.hood=c;intro HV HC HCB;go_wp2_with fail;refine HC.out.mono ?_;rintro e w6 ⟨rfl,hb6⟩;have HB6:=hiD (below_on2 HBr.out hb6);clear hb6 HC k0 k1 k2 k3 k4 kl;by_cases hc0:0≤c
   ·obtain ⟨cn,rfl⟩:∃ cn:Nat,c=(cn:Int):=⟨c.toNat,by omega⟩
    have hcn:=HCB.out hc0;rw [Int.toNat_natCast] at hcn;rw [if_pos hc0,Int.toNat_natCast] at HV;have hd0:decide (0≤(cn:Int))=true:=decide_eq_true hc0;have hcz:(cn:Int) < (n:Int):=by omega
    obtain ⟨adi,rfl,hbi,hz⟩:=(HI.out.up HB6.out).int hcn;revert hz HV;generalize ins.getD cn 0=z;intro HV hz
    have HE:Hid (∀ _:Unit,KT.nextErr t ins=0∧KT.nextK t ins=z):=fun _=>⟨HF.out.1,HF.out.2.trans HV.out⟩
    go_wp2;go_ret2;rw [(HE.out ()).1,(HE.out ()).2];exact ⟨rfl,HB6.out⟩
   ·have hd0:decide (0≤c)=false:=decide_eq_false hc0;rw [if_neg hc0] at HV
    have HE:Hid (∀ _:Unit,KT.nextErr t ins=0∧KT.nextK t ins=0):=fun _=>⟨HF.out.1,HF.out.2.trans HV.out⟩
    go_wp2;go_ret2;rw [(HE.out ()).1,(HE.out ()).2];exact ⟨rfl,HB6.out⟩
end Go.Proofs.YtbijfnbelkbofaaGreatDoor
namespace Go.Proofs.YtbijfnbelkbofaaGreatDoor
open Go.RowKit
def smallK (t:KT.Tab):Bool:=decide (t.states ^ t.hood.length≤65536)
theorem pow_up {s:Int} (h:2≤s) {i n:Nat} (hi:i≤n):s ^ i≤s ^ n:=by
 obtain ⟨m,rfl⟩:∃ m,n=i+m:=⟨n - i,by omega⟩
 clear hi
 induction m with
 | zero=>exact Int.le_refl _
 | succ m ih=>
  have hp:0≤s ^ (i+m):=Int.pow_nonneg (by omega);have:s ^ (i+m) * 1≤s ^ (i+m) * s:=Int.mul_le_mul_of_nonneg_left (by omega) hp;rw [← Nat.add_assoc,Int.pow_succ];omega
set_option maxHeartbeats 1000000 in
theorem small_any (t:KT.Tab) (P:TP) (w:World) (hl:t.hood.length=P.hn) (h2:2≤t.states) (h8:t.states≤8) (hm:P.hn≤25):
 Calls Tryz.prog 121 #[.agg #[.int .i64 t.states,.int .i64 t.sym,.slice P.HA P.hn P.hc,.slice P.VA P.vn P.vc,.slice P.RA P.rn P.rc]] w fun e w'=>e=.returned (.bool (smallK t))∧Below w.heap.size w w':=by
 obtain ⟨HA,hn,hc,VA,vn,vc,RA,rn,rc,vs,rs⟩:=P;dsimp only at hl hm;dsimp only;have HL:=hiD hl;have H2:=hiD h2;clear hl;go_enter Tryz.func121,Tryz.ntmps121;go_upto_region 1 with fail
 have RT1:Hid (Row (World.alloc w (.cells #[.int .i64 t.states,.int .i64 t.sym,.slice HA hn hc,.slice VA vn vc,.slice RA rn rc] 60)) (w.heap.size) 60 [.int .i64 t.states,.int .i64 t.sym,.slice HA hn hc,.slice VA vn vc,.slice RA rn rc]):=by
  have h0:=Row.new w 60 [.int .i64 t.states,.int .i64 t.sym,.slice HA hn hc,.slice VA vn vc,.slice RA rn rc]
  try simp only [World.size_alloc] at h0
  exact h0
 have HW9:Hid (Below w.heap.size w (World.alloc w (.cells #[.int .i64 t.states,.int .i64 t.sym,.slice HA hn hc,.slice VA vn vc,.slice RA rn rc] 60))):=by show Below _ _ _;go_grown
 revert RT1 HW9;generalize (World.alloc w (.cells #[.int .i64 t.states,.int .i64 t.sym,.slice HA hn hc,.slice VA vn vc,.slice RA rn rc] 60))=w1;intro RT1 HW9;obtain ⟨k0,k1,k2,k3,k4,kl⟩:=RT1.out.cells5;go_wp2
 go_loopg [3,7] hn (fun gg s3 s7 wr=>∃ (i:Nat) (p:Int),i≤hn∧hn - i≤gg∧s7=.int .i64 (i:Int)∧s3=.int .i64 p∧(0≤p∧p≤65536)∧Aside (p=t.states ^ i)∧wr=w1)
 case atStart=>exact ⟨0,1,by omega,by omega,rfl,rfl,by omega,(Int.pow_zero _).symm,rfl⟩
 case round=>
  obtain ⟨i,p,hi,hgg,rfl,rfl,hp,HPW,hwr⟩:=hrel;subst wr;by_cases hlt:i < hn
  ·have hltz:(i:Int) < (hn:Int):=by omega
   have hb:0≤p * t.states∧p * t.states≤65536 * 8:=⟨Int.mul_nonneg hp.1 (by omega),Int.mul_le_mul hp.2 h8 (by omega) (by omega)⟩
   have HQ:Hid (p * t.states=t.states ^ (i+1)):=by show _=_;rw [HPW.out,Int.pow_succ]
   have hw:IntKind.i64.wrap (p * t.states)=p * t.states:=IntWalk.i64_in _ (by omega)
   obtain ⟨q,hq0⟩:∃ q:Int,p * t.states=q:=⟨_,rfl⟩
   rw [hq0] at hb HQ;have hw1:IntKind.i64.wrap (p * t.states)=q:=hw.trans hq0;have hw2:wrap64 (p * t.states)=q:=(IntWalk.wrap64_in _ (by rw [hq0];omega)).trans hq0;clear hw hq0;by_cases hq:65536 < q
   ·have hd:decide (65536 < q)=true:=decide_eq_true hq
    have HF:Hid (∀ _:Unit,smallK t=false):=fun _=>decide_eq_false (fun h=>by
     have:=pow_up H2.out (show i+1≤t.hood.length by rw [HL.out];omega);rw [← HQ.out] at this
     omega)
    go_wp2;go_ret;rw [HF.out ()];exact ⟨rfl,HW9.out⟩
   ·have hd:decide (65536 < q)=false:=decide_eq_false hq;go_wp2;go_roundg (hn - (i+1))
    case measure=>omega
    case rel=>exact ⟨i+1,q,by omega,by omega,by go_num,rfl,by omega,HQ.out,rfl⟩
  ·have hltz:¬ (i:Int) < (hn:Int):=by omega
   have HF:Hid (∀ _:Unit,smallK t=true):=fun _=>decide_eq_true (by
    rw [HL.out,show hn=i by omega,← HPW.out];exact hp.2)
   go_wp2;go_ret;rw [HF.out ()];exact ⟨rfl,HW9.out⟩
end Go.Proofs.YtbijfnbelkbofaaGreatDoor
namespace Go.Proofs.YtbijfnbelkbofaaGreatDoor
open Go.RowKit Go.Maps
theorem hood_len {l:List Pt} (h:hoodOk l=true):l.length≤25:=by
 unfold hoodOk at h;simp only [Bool.and_eq_true,decide_eq_true_eq] at h;omega
def nodesK (t:KT.Tab):List Nd:=(KT.buildK t.states.toNat (KT.nextK t) t.hood.length [] []).2
def treeK (t:KT.Tab):Tre:=if KT.rightK t=true∧smallK t=true∧(nodesK t).length≤4096 then ⟨t.states,t.hood,nodesK t⟩ else noTre
def treeErr (t:KT.Tab):Int:=if KT.rightK t=true then (if smallK t=true∧(nodesK t).length≤4096 then 0 else 6) else 2
theorem next_rng {t:KT.Tab} (hr:KT.rightK t=true) (ins:List Int) (hl:ins.length=t.hood.length) (hi:∀ s ∈ ins,0≤s∧s < (t.states.toNat:Int)):0≤KT.nextK t ins∧KT.nextK t ins < t.states.toNat:=by
 have hs:ins.all (KT.stOk t)=true:=by
  rw [List.all_eq_true];intro s hs;have:=hi s hs;exact decide_eq_true (by omega)
 have h1:=KT.value_in hr hl hs;have h2:KT.nextK t ins=KT.valueK t ins:=(next_ok ⟨hr,hl⟩ hs).2;rw [h2];obtain ⟨a,b⟩:=h1;have:=(rightP hr).s2;omega
set_option maxRecDepth 100000 in
set_option maxHeartbeats 1000000 in
theorem treeFn_any (t:KT.Tab) (P:TP) (tb:Nat) (ins:List Int) (IA:Option Addr) (n ic:Nat) (w:World) (hrow:Row w tb 60 (P.cells t)) (h:TabAt w t P) (hmat:MatAt w) (hi:Rd w w.heap.size 1 IA n (ints ins)) (hm:n≤maxLen):
 Calls Tryz.prog 70 #[.slice IA n ic,.pointer (some ⟨tb,0,none⟩)] w fun e w'=>e=.returned (.int .i64 (KT.nextK t ins))∧Below w.heap.size w w':=by
 have HC:=hiD (next_any t P ins IA n ic w h hmat hi hm);obtain ⟨HA,hn,hc,VA,vn,vc,RA,rn,rc,vs,rs⟩:=P;have HR:=hiD hrow;dsimp only at HC;clear hrow h hmat hi;obtain ⟨k0,k1,k2,k3,k4,kl⟩:=HR.out.cells5;go_enter Tryz.func70,Tryz.ntmps70;go_wp2_with fail;refine HC.out.mono ?_;rintro e w1 ⟨rfl,hb⟩;have HB:=hiD hb;clear hb HC HR k0 k1 k2 k3 k4 kl;go_wp2;go_ret;exact ⟨rfl,HB.out⟩
def MadePost (t:KT.Tab) (P:TP) (w:World) (e:Ending) (w':World):Prop:=∃ HA hn hc NA nc sl,e=.returned (.tuple #[.agg #[.int .i64 (treeK t).states,.slice HA hn hc,.slice NA (treeK t).nodes.length nc],.int .i64 (treeErr t)])∧TOwn w.heap.size w' (treeK t).nodes NA nc sl∧Below w.heap.size w w'∧((treeK t).hood=[]∧(hn=0∧HA=none)∨(treeK t).hood=t.hood∧HA=P.HA∧hn=P.hn)
theorem madePost_err {t:KT.Tab} {P:TP} {k:Int} {w w':World} (h:treeK t=noTre) (hk:treeErr t=k) (hb:Below w.heap.size w w'):MadePost t P w (.returned (.tuple #[.agg #[.int .i64 0,.slice none 0 0,.slice none 0 0],.int .i64 k])) w':=by
 refine ⟨none,0,0,none,0,[],?_,?_,hb,.inl ⟨?_,rfl,rfl⟩⟩
 ·rw [h,hk];rfl
 ·rw [h];exact TOwn.nil _ _
 ·rw [h];rfl
set_option maxRecDepth 100000 in
set_option maxHeartbeats 4000000 in
theorem made_any (t : KT.Tab) (P : TP) (tb : Nat) (w : World) (hrow : Row w tb 60 (P.cells t)) (h : TabAt w t P) (hmat : MatAt w) (hr : KT.rightK t = true) (htab : Lib.TabBelow Tryz.prog w.heap.size w "internal/strconv.uint64pow10" .u64 Lib.pow10Tab) :
 Calls Tryz.prog 69 #[.agg #[.int .i64 t.states,.int .i64 t.sym,.slice P.HA P.hn P.hc,.slice P.VA P.vn P.vc,.slice P.RA P.rn P.rc],.func (.func 70) #[] #[.pointer (some ⟨tb,0,none⟩)]] w (MadePost t P w):=by
 have HRP:=hiD (rightP hr);have HRT:=hiD hr;have hn25:P.hn≤25:=h.hl ▸ hood_len HRP.out.hood
 have HSM:=hiD (fun W=>small_any t P W h.hl HRP.out.s2 HRP.out.s8 hn25);obtain ⟨HA,hn,hc,VA,vn,vc,RA,rn,rc,vs,rs⟩:=P;dsimp only at HSM hn25;dsimp only;have H:=hiD h;have HM:=hiD hmat;have HR:=hiD hrow;have HT:=hiD htab;have HL:Hid (t.hood.length=hn):=h.hl;clear h hmat hrow hr htab;go_enter Tryz.func69,Tryz.ntmps69;go_upto_region 1 with fail;obtain ⟨w1,hW9,RT,RZ,hgr9⟩:=laid2 w [.int .i64 t.states,.int .i64 t.sym,.slice HA hn hc,.slice VA vn vc,.slice RA rn rc] 60 [.int .i64 0,.slice none 0 0,.slice none 0 0] 27;rewrite [hW9];clear hW9;have B_w:=hiD hgr9;clear hgr9;have HC:=HSM.out w1;clear HSM
 cases hsm:smallK t with
 | false=>
  rw [hsm] at HC
  have HE:Hid (treeK t=noTre∧treeErr t=6):=hiD (by
   unfold treeK treeErr;rw [hsm,HRT.out]
   exact ⟨if_neg (by simp),by simp⟩)
  have HC:=hiD HC;clear hsm;obtain ⟨k0,k1,k2,k3,k4,kl⟩:=RT.out.cells5;go_wp2_with fail;refine HC.out.mono ?_;rintro e w2 ⟨rfl,hb⟩;have B_w:=hiD (below_on2 B_w.out hb);have B_w1:=hiD hb;clear k0 k1 k2 k3 k4 kl;clear hb
  have RZ2:=(show Hid (Row w2 (w.heap.size+1) 27 [.int .i64 0,.slice none 0 0,.slice none 0 0]) from (rowCells RZ.out B_w1.out))
  obtain ⟨z0,z1,z2,zl⟩:=RZ2.out.cells3;obtain ⟨zf0,zf1,zf2⟩:=RZ2.out.froz3;go_wp2;refine bodyPost_ret (v:=.tuple #[.agg #[.int .i64 0,.slice none 0 0,.slice none 0 0],.int .i64 6]) (by simp [results,Tryz.results69,go_sem,z0,z1,z2]) rfl ?_;exact madePost_err HE.out.1 HE.out.2 (by have:=B_w.out;go_grown)
 | true=>
  rw [hsm] at HC;have HSK:=hiD hsm;have HC:=hiD HC;clear hsm;obtain ⟨k0,k1,k2,k3,k4,kl⟩:=RT.out.cells5;go_wp2_with fail;refine HC.out.mono ?_;rintro e w2 ⟨rfl,hb⟩;have B_w:=hiD (below_on2 B_w.out hb);have B_w1:=hiD hb;clear k0 k1 k2 k3 k4 kl;clear hb;clear HC;obtain ⟨k0,k1,k2,k3,k4,kl⟩:=(rowCells RT.out B_w1.out).cells5;have HWS:Hid (w.heap.size≤w2.heap.size):=B_w.out.size;have HRZ2:=hiD (rowCells RZ.out B_w1.out);have hmm:=@run_makeMap Tryz.prog;have hss:t.states=(t.states.toNat:Int):=by have:=HRP.out.s2;omega
  obtain ⟨S,hS⟩:∃ S:Nat,t.states.toNat=S:=⟨_,rfl⟩
  rw [hS] at hss;have HSS:=hiD hss;have HSN:=hiD hS;clear hS hss;go_upto_region 4 with fail;clear hmm;clear k0 k1 k2 k3 k4 kl
  have HB0:Hid (BSt w2 ⟨w2.heap.size+1,w2.heap.size,tb,S,HA,hn,hc⟩ ⟨none,0,[],none,0⟩ [] [] (KT.idsF []) ((w2.alloc (.map #[] 0)).alloc (.cells #[.int .i64 t.states,.slice HA hn hc,.slice none 0 0,.map (some w2.heap.size),.slice none 0 0,.func (.func 70) #[] #[.pointer (some ⟨tb,0,none⟩)]] 182))):=hiD
   ⟨((Below.refl _ _).alloc (Nat.le_refl _) _).alloc (by simp) _,by show w2.heap.size≤w2.heap.size+1;omega,Nat.le_refl _,(by
    have h0:=Row.new (w2.alloc (.map #[] 0)) 182 [.int .i64 t.states,.slice HA hn hc,.slice none 0 0,.map (some w2.heap.size),.slice none 0 0,.func (.func 70) #[] #[.pointer (some ⟨tb,0,none⟩)]];rw [World.size_alloc,HSS.out] at h0
    exact (by rw [HSS.out];exact h0:Row ((w2.alloc (.map #[] 0)).alloc (.cells #[.int .i64 t.states,.slice HA hn hc,.slice none 0 0,.map (some w2.heap.size),.slice none 0 0,.func (.func 70) #[] #[.pointer (some ⟨tb,0,none⟩)]] 182)) (w2.heap.size+1) 182 [.int .i64 (S:Int),.slice HA hn hc,.slice none 0 0,.map (some w2.heap.size),.slice none 0 0,.func (.func 70) #[] #[.pointer (some ⟨tb,0,none⟩)]])),World.ownsRow_nil _ _ _ _,World.ownsRow_nil _ _ _ _,rfl,fun i hi=>absurd hi (Nat.not_lt_zero _),fun i hi=>absurd hi (Nat.not_lt_zero _),((MK.made w2 Tryz.prog 9).alloc _).congr (fun v=>KT.idsF_nil v)⟩
  have HBT:Hid (Below w2.heap.size w2 ((w2.alloc (.map #[] 0)).alloc (.cells #[.int .i64 t.states,.slice HA hn hc,.slice none 0 0,.map (some w2.heap.size),.slice none 0 0,.func (.func 70) #[] #[.pointer (some ⟨tb,0,none⟩)]] 182))):=hiD (((Below.refl _ _).alloc (Nat.le_refl _) _).alloc (by simp) _)
  have HX:Hid (BHyp w2 ⟨w2.heap.size+1,w2.heap.size,tb,S,HA,hn,hc⟩ (KT.nextK t) hn):=hiD
   {s2:=by show 2≤S;have:=HRP.out.s2;have:=HSS.out;omega
    s8:=by show S≤8;have:=HRP.out.s8;have:=HSS.out;omega
    hn:=rfl
    h25:=hn25
    rng:=fun ins hl hi=>by
     dsimp only at hi ⊢;rw [← HSN.out];exact next_rng HRT.out ins (by rw [HL.out];exact hl) (by rw [HSN.out];exact hi)
    call:=fun ins IA ic W hl hi hb hrd=>by
     have hbw:=B_w.out.trans (hb.mono B_w.out.size);exact treeFn_any t ⟨HA,hn,hc,VA,vn,vc,RA,rn,rc,vs,rs⟩ tb ins IA hn ic W (rowCells HR.out hbw) (H.out.up hbw) (HM.out.up hbw) hrd (by unfold maxLen;omega)
    tab:=tab_up HT.out B_w.out B_w.out.size }
  have HPW:Hid (S ^ hn≤65536):=hiD (by
   have h1:=of_decide_eq_true HSK.out;rw [HSS.out,HL.out] at h1;have h2:((S ^ hn:Nat):Int)≤65536:=by rw [Int.natCast_pow];exact h1
   generalize S ^ hn=q at h2 ⊢
   omega)
  have HC:=hiD (build_any w2 ⟨w2.heap.size+1,w2.heap.size,tb,S,HA,hn,hc⟩ (KT.nextK t) hn HX.out hn [] [] ⟨none,0,[],none,0⟩ ((w2.alloc (.map #[] 0)).alloc (.cells #[.int .i64 t.states,.slice HA hn hc,.slice none 0 0,.map (some w2.heap.size),.slice none 0 0,.func (.func 70) #[] #[.pointer (some ⟨tb,0,none⟩)]] 182)) (by simp) (by simp) ⟨by simp,by simp⟩ (by show 0+S ^ hn≤70000;have:=HPW.out;omega) HB0.out);have HRES:=hiD (KT.buildK_res HX.out.s2 HX.out.rng hn [] [] (by simp) (by simp) ⟨by simp,by simp⟩);have HNS:Hid ((KT.buildK S (KT.nextK t) hn [] []).2=nodesK t):=hiD (by unfold nodesK;rw [HSN.out,HL.out]);dsimp only at HC HRES;clear HB0 HX;revert HBT HC;generalize ((w2.alloc (.map #[] 0)).alloc (.cells #[.int .i64 t.states,.slice HA hn hc,.slice none 0 0,.map (some w2.heap.size),.slice none 0 0,.func (.func 70) #[] #[.pointer (some ⟨tb,0,none⟩)]] 182))=w3;intro HBT HC;go_wp2_with fail;refine HC.out.mono ?_;rintro e w4 ⟨p,rfl,hb,hm⟩;have HB4:=hiD hb;rw [HNS.out] at HB4;clear hb hm HC HBT;obtain ⟨NA,nc,sl,IA,ic⟩:=p;have hb:=HB4.out.bel;have B_w:=hiD (below_on2 B_w.out hb);have B_w1:=hiD (below_on2 B_w1.out hb);clear hb;have HR4:=hiD (rowCells RZ.out B_w1.out);obtain ⟨z0,z1,z2,zl⟩:=HR4.out.cells3;obtain ⟨zf0,zf1,zf2⟩:=HR4.out.froz3;have hqR:=HB4.out.row;dsimp only [BEnv.cells] at hqR;have ql:=hqR.lt;have q0:=hqR.cell 0;have q1:=hqR.cell 1;have q2:=hqR.cell 2;simp only [List.getElem?_cons_zero,List.getElem?_cons_succ] at q0 q1 q2;clear hqR;by_cases hn4:(nodesK t).length≤4096
  ·have HE:Hid (treeK t=⟨(S:Int),t.hood,nodesK t⟩∧treeErr t=0):=hiD (by
    unfold treeK treeErr;rw [if_pos ⟨HRT.out,HSK.out,hn4⟩,if_pos HRT.out,if_pos ⟨HSK.out,hn4⟩,HSS.out]
    exact ⟨rfl,rfl⟩)
   have hd:decide ((4096:Int) < ((nodesK t).length:Int))=false:=decide_eq_false (by omega);have hd2:decide (4096 < (nodesK t).length)=false:=decide_eq_false (by omega);have HRF:Hid (Row (((w4.setCell ⟨w.heap.size+1,0,none⟩ (.int .i64 (S:Int))).setCell ⟨w.heap.size+1,1,none⟩ (.slice HA hn hc)).setCell ⟨w.heap.size+1,2,none⟩ (.slice NA (nodesK t).length nc)) (w.heap.size+1) 27 [.int .i64 (S:Int),.slice HA hn hc,.slice NA (nodesK t).length nc]):=hiD (((HR4.out.set 0 _).set 1 _).set 2 _)
   have HTF:Hid (TOwn w2.heap.size (((w4.setCell ⟨w.heap.size+1,0,none⟩ (.int .i64 (S:Int))).setCell ⟨w.heap.size+1,1,none⟩ (.slice HA hn hc)).setCell ⟨w.heap.size+1,2,none⟩ (.slice NA (nodesK t).length nc)) (nodesK t) NA nc sl):=hiD (by
    have h0:TOwn w2.heap.size w4 (nodesK t) NA nc sl:=⟨HB4.out.nown,HB4.out.sll,HB4.out.nxt,fun x hx=>by
     have h1:=(HRES.out.ok.lev x (by rw [HNS.out];exact hx)).2;have h2:=HRP.out.s8;have h3:=HSS.out
     omega,by omega⟩
    have hlt:w.heap.size+1 < w2.heap.size:=(show Row w2 (w.heap.size+1) _ _ from HRZ2.out).lt
    exact ((h0.set (p:=⟨w.heap.size+1,0,none⟩) hlt _).set (p:=⟨w.heap.size+1,1,none⟩) hlt _).set (p:=⟨w.heap.size+1,2,none⟩) hlt _)
   have HBF:Hid (Below w.heap.size w (((w4.setCell ⟨w.heap.size+1,0,none⟩ (.int .i64 (S:Int))).setCell ⟨w.heap.size+1,1,none⟩ (.slice HA hn hc)).setCell ⟨w.heap.size+1,2,none⟩ (.slice NA (nodesK t).length nc))):=hiD (((B_w.out.setCell (p:=⟨w.heap.size+1,0,none⟩) (by show _≤w.heap.size+1;omega) _).setCell (p:=⟨w.heap.size+1,1,none⟩) (by show _≤w.heap.size+1;omega) _).setCell (p:=⟨w.heap.size+1,2,none⟩) (by show _≤w.heap.size+1;omega) _);have HW2:Hid (w.heap.size≤w2.heap.size):=HWS.out;obtain ⟨d0,d1,d2,dl⟩:=HRF.out.cells3;go_wp2;refine bodyPost_ret (v:=.tuple #[.agg #[.int .i64 (S:Int),.slice HA hn hc,.slice NA (nodesK t).length nc],.int .i64 0]) (by simp [results,Tryz.results69,go_sem,d0,d1,d2]) rfl ?_;refine ⟨HA,hn,hc,NA,nc,sl,?_,?_,HBF.out,.inr ⟨?_,rfl,rfl⟩⟩
   ·rw [HE.out.1,HE.out.2]
   ·rw [HE.out.1];exact HTF.out.mono HW2.out
   ·rw [HE.out.1]
  ·have HE:Hid (treeK t=noTre∧treeErr t=6):=hiD (by
    unfold treeK treeErr;rw [if_neg (fun h=>hn4 h.2.2),if_pos HRT.out,if_neg (fun h=>hn4 h.2)]
    exact ⟨rfl,rfl⟩)
   have hd:decide ((4096:Int) < ((nodesK t).length:Int))=true:=decide_eq_true (by omega);have hd2:decide (4096 < (nodesK t).length)=true:=decide_eq_true (by omega);have HRF:Hid (Row (((w4.setCell ⟨w.heap.size+1,0,none⟩ (.int .i64 0)).setCell ⟨w.heap.size+1,1,none⟩ (.slice none 0 0)).setCell ⟨w.heap.size+1,2,none⟩ (.slice none 0 0)) (w.heap.size+1) 27 [.int .i64 0,.slice none 0 0,.slice none 0 0]):=hiD (((HR4.out.set 0 _).set 1 _).set 2 _);have HBF:Hid (Below w.heap.size w (((w4.setCell ⟨w.heap.size+1,0,none⟩ (.int .i64 0)).setCell ⟨w.heap.size+1,1,none⟩ (.slice none 0 0)).setCell ⟨w.heap.size+1,2,none⟩ (.slice none 0 0))):=hiD (((B_w.out.setCell (p:=⟨w.heap.size+1,0,none⟩) (by show _≤w.heap.size+1;omega) _).setCell (p:=⟨w.heap.size+1,1,none⟩) (by show _≤w.heap.size+1;omega) _).setCell (p:=⟨w.heap.size+1,2,none⟩) (by show _≤w.heap.size+1;omega) _);obtain ⟨d0,d1,d2,dl⟩:=HRF.out.cells3;go_wp2;refine bodyPost_ret (v:=.tuple #[.agg #[.int .i64 0,.slice none 0 0,.slice none 0 0],.int .i64 6]) (by simp [results,Tryz.results69,go_sem,d0,d1,d2]) rfl ?_;exact madePost_err HE.out.1 HE.out.2 HBF.out
set_option maxRecDepth 100000 in
set_option maxHeartbeats 4000000 in
theorem tree_made (t : KT.Tab) (P : TP) (w : World) (h : TabAt w t P) (hmat : MatAt w) (htab : Lib.TabBelow Tryz.prog w.heap.size w "internal/strconv.uint64pow10" .u64 Lib.pow10Tab) :
 Calls Tryz.prog 22 #[.agg #[.int .i64 t.states,.int .i64 t.sym,.slice P.HA P.hn P.hc,.slice P.VA P.vn P.vc,.slice P.RA P.rn P.rc]] w (MadePost t P w):=by
 have HC1:=hiD (fun W h hm=>right_any t P W h hm);have HC2:=hiD (fun tb W hr h hm hrt ht=>made_any t P tb W hr h hm hrt ht);obtain ⟨HA,hn,hc,VA,vn,vc,RA,rn,rc,vs,rs⟩:=P;dsimp only at HC1 HC2;dsimp only;have H:=hiD h;have HM:=hiD hmat;have HT:=hiD htab;clear h hmat htab;go_enter Tryz.func22,Tryz.ntmps22;go_upto_region 1 with fail;obtain ⟨w1,hW9,RT,RZ,hgr9⟩:=laid2 w [.int .i64 t.states,.int .i64 t.sym,.slice HA hn hc,.slice VA vn vc,.slice RA rn rc] 60 [.int .i64 0,.slice none 0 0,.slice none 0 0] 27;rewrite [hW9];clear hW9;have B_w:=hiD hgr9;clear hgr9;have HC3:=hiD (HC1.out w1 (H.out.up B_w.out) (HM.out.up B_w.out));have HL1:Hid (w.heap.size+1 < w1.heap.size):=(show Row w1 (w.heap.size+1) _ _ from RZ.out).lt;obtain ⟨k0,k1,k2,k3,k4,kl⟩:=RT.out.cells5;go_wp2_with fail;refine HC3.out.mono ?_;rintro e w2 ⟨rfl,hb⟩;clear HC3 HC1;have B_w:=hiD (below_on2 B_w.out hb);have B_w1:=hiD hb;clear k0 k1 k2 k3 k4 kl;clear hb;have HL2:Hid (w.heap.size+1 < w2.heap.size):=hiD (Nat.lt_of_lt_of_le HL1.out B_w1.out.size)
 cases hr:KT.rightK t with
 | false=>
  have HE:Hid (treeK t=noTre∧treeErr t=2):=hiD (by
   unfold treeK treeErr;rw [hr]
   exact ⟨if_neg (by simp),if_neg (by simp)⟩)
  clear hr;obtain ⟨z0,z1,z2,zl⟩:=(rowCells RZ.out B_w1.out).cells3;have RZ2:=hiD (rowCells RZ.out B_w1.out);obtain ⟨zf0,zf1,zf2⟩:=RZ2.out.froz3;have HRF:Hid (Row (((w2.setCell ⟨w.heap.size+1,0,none⟩ (.int .i64 0)).setCell ⟨w.heap.size+1,1,none⟩ (.slice none 0 0)).setCell ⟨w.heap.size+1,2,none⟩ (.slice none 0 0)) (w.heap.size+1) 27 [.int .i64 0,.slice none 0 0,.slice none 0 0]):=hiD (((RZ2.out.set 0 _).set 1 _).set 2 _);have HBF:Hid (Below w.heap.size w (((w2.setCell ⟨w.heap.size+1,0,none⟩ (.int .i64 0)).setCell ⟨w.heap.size+1,1,none⟩ (.slice none 0 0)).setCell ⟨w.heap.size+1,2,none⟩ (.slice none 0 0))):=hiD (((B_w.out.setCell (p:=⟨w.heap.size+1,0,none⟩) (by show _≤w.heap.size+1;omega) _).setCell (p:=⟨w.heap.size+1,1,none⟩) (by show _≤w.heap.size+1;omega) _).setCell (p:=⟨w.heap.size+1,2,none⟩) (by show _≤w.heap.size+1;omega) _);obtain ⟨d0,d1,d2,dl⟩:=HRF.out.cells3;go_wp2;refine bodyPost_ret (v:=.tuple #[.agg #[.int .i64 0,.slice none 0 0,.slice none 0 0],.int .i64 2]) (by simp [results,Tryz.results22,go_sem,d0,d1,d2]) rfl ?_;exact madePost_err HE.out.1 HE.out.2 HBF.out
 | true=>
  have HC3:=hiD (HC2.out w.heap.size w2 (rowCells RT.out B_w1.out) (H.out.up B_w.out) (HM.out.up B_w.out) hr (tab_up HT.out B_w.out B_w.out.size));clear hr HC2;obtain ⟨k0,k1,k2,k3,k4,kl⟩:=(rowCells RT.out B_w1.out).cells5;go_wp2_with fail;refine HC3.out.mono ?_;rintro e w3 ⟨HA3,hn3,hc3,NA,nc,sl,rfl,hown,hb,hhd⟩;have HOW:=hiD hown;have HHD:=hiD hhd;clear HC3 hown hhd;have B_w:=hiD (below_on2 B_w.out hb);have B_w1:=hiD (below_on2 B_w1.out hb);clear k0 k1 k2 k3 k4 kl;clear hb;have RZ3:=hiD (rowCells RZ.out B_w1.out);obtain ⟨z0,z1,z2,zl⟩:=RZ3.out.cells3;obtain ⟨zf0,zf1,zf2⟩:=RZ3.out.froz3
  obtain ⟨st,hst⟩:∃ st,treeK t=st:=⟨_,rfl⟩
  have HST:=hiD hst;rw [hst] at HOW HHD;rw [hst];clear hst;obtain ⟨ts,th,tn⟩:=st;dsimp only at HOW HHD ⊢;have HRF:Hid (Row (((w3.setCell ⟨w.heap.size+1,0,none⟩ (.int .i64 ts)).setCell ⟨w.heap.size+1,1,none⟩ (.slice HA3 hn3 hc3)).setCell ⟨w.heap.size+1,2,none⟩ (.slice NA tn.length nc)) (w.heap.size+1) 27 [.int .i64 ts,.slice HA3 hn3 hc3,.slice NA tn.length nc]):=hiD (((RZ3.out.set 0 _).set 1 _).set 2 _);have HTF:Hid (TOwn w2.heap.size (((w3.setCell ⟨w.heap.size+1,0,none⟩ (.int .i64 ts)).setCell ⟨w.heap.size+1,1,none⟩ (.slice HA3 hn3 hc3)).setCell ⟨w.heap.size+1,2,none⟩ (.slice NA tn.length nc)) tn NA nc sl):=hiD (((HOW.out.set (p:=⟨w.heap.size+1,0,none⟩) HL2.out _).set (p:=⟨w.heap.size+1,1,none⟩) HL2.out _).set (p:=⟨w.heap.size+1,2,none⟩) HL2.out _);have HBF:Hid (Below w.heap.size w (((w3.setCell ⟨w.heap.size+1,0,none⟩ (.int .i64 ts)).setCell ⟨w.heap.size+1,1,none⟩ (.slice HA3 hn3 hc3)).setCell ⟨w.heap.size+1,2,none⟩ (.slice NA tn.length nc))):=hiD (((B_w.out.setCell (p:=⟨w.heap.size+1,0,none⟩) (by show _≤w.heap.size+1;omega) _).setCell (p:=⟨w.heap.size+1,1,none⟩) (by show _≤w.heap.size+1;omega) _).setCell (p:=⟨w.heap.size+1,2,none⟩) (by show _≤w.heap.size+1;omega) _);obtain ⟨d0,d1,d2,dl⟩:=HRF.out.cells3;go_wp2;refine bodyPost_ret (v:=.tuple #[.agg #[.int .i64 ts,.slice HA3 hn3 hc3,.slice NA tn.length nc],.int .i64 (treeErr t)]) (by simp [results,Tryz.results22,go_sem,d0,d1,d2]) rfl ?_;refine ⟨HA3,hn3,hc3,NA,nc,sl,?_,?_,HBF.out,?_⟩
  ·rw [HST.out]
  ·rw [HST.out];exact HTF.out.mono (by have:=HL2.out;omega)
  ·rw [HST.out];exact HHD.out
end Go.Proofs.YtbijfnbelkbofaaGreatDoor
