/-
  Lemmas for the law TopCircuits.
-/
import Derived.Test.YtbijfnbelkbofaaGreatDoorJZ20
import Derived.Test.YtbijfnbelkbofaaGreatDoorJZ16
set_option linter.unusedSimpArgs false
set_option linter.unusedVariables false
namespace Go.Proofs.YtbijfnbelkbofaaGreatDoor
open Go.RowKit
def letterB (l:List Pt):Bool:=decide (l=mooreL) || decide (l=neumL) || decide (l=hexL)
theorem moore_len:mooreL.length≤9:=colL_len _ _
theorem neum_len:neumL.length≤9:=colL_len _ _
theorem hex_len:hexL.length≤9:=colL_len _ _
set_option maxRecDepth 100000 in
set_option maxHeartbeats 2000000 in
theorem letter_any (l:List Pt) (A:Option Addr) (n c:Nat) (w:World) (hr:Rd w w.heap.size 2 A n (hoodCells l)) (hn:n≤maxLen):
 Calls Tryz.prog 102 #[.slice A n c] w fun e w'=>∃ s,e=.returned (.tuple #[.string s,.bool (letterB l)])∧Below w.heap.size w w':=by
 have HH:=hiD hr;have HN:=hiD hn;have HB:=hiD (Below.refl w.heap.size w);clear hr hn;go_enter Tryz.func102,Tryz.ntmps102;go_wp2_with fail;refine (moore_any w).mono ?_;rintro e w1 ⟨M1,c1,rfl,ho1,hb1⟩;have HO1:=hiD (Rd.of_own ho1);have HH1:=hiD (HH.out.up hb1);have HB1:=hiD (HB.out.trans (hb1.mono HB.out.size));clear ho1 hb1 HH HB;have HC:=hiD (hoodSame_any A M1 n mooreL.length c c1 l mooreL w1 HH1.out HO1.out HN.out (by have:=moore_len;unfold maxLen;omega));go_wp2_with fail;refine HC.out.mono ?_;rintro e w2 ⟨rfl,hb⟩;have HB:=hiD (HB1.out.trans (hb.mono HB1.out.size));have HH:=hiD (HH1.out.up hb);clear hb HC HB1 HH1 HO1;by_cases h1:l=mooreL
 ·have d1:decide (l=mooreL)=true:=decide_eq_true h1;have HL:Hid (letterB l=true):=hiD (by unfold letterB;rw [d1];rfl);clear h1;go_wp2_with fail;go_ret2;exact ⟨⟨#[]⟩,by rw [HL.out];rfl,HB.out⟩
 have d1:decide (l=mooreL)=false:=decide_eq_false h1;clear h1;go_wp2_with fail;refine (neum_any w2).mono ?_;rintro e w3 ⟨M2,c2,rfl,ho2,hb2⟩;have HO2:=hiD (Rd.of_own ho2);have HH2:=hiD (HH.out.up hb2);have HB2:=hiD (HB.out.trans (hb2.mono HB.out.size));clear ho2 hb2 HH HB;have HC:=hiD (hoodSame_any A M2 n neumL.length c c2 l neumL w3 HH2.out HO2.out HN.out (by have:=neum_len;unfold maxLen;omega));go_wp2_with fail;refine HC.out.mono ?_;rintro e w4 ⟨rfl,hb⟩;have HB:=hiD (HB2.out.trans (hb.mono HB2.out.size));have HH:=hiD (HH2.out.up hb);clear hb HC HB2 HH2 HO2;by_cases h2:l=neumL
 ·have d2:decide (l=neumL)=true:=decide_eq_true h2;have HL:Hid (letterB l=true):=hiD (by unfold letterB;rw [d1,d2];rfl);clear h2;go_wp2_with fail;go_ret2;exact ⟨⟨#[86]⟩,by rw [HL.out];rfl,HB.out⟩
 have d2:decide (l=neumL)=false:=decide_eq_false h2;clear h2;go_wp2_with fail;refine (hex_any w4).mono ?_;rintro e w5 ⟨M3,c3,rfl,ho3,hb3⟩;have HO3:=hiD (Rd.of_own ho3);have HH3:=hiD (HH.out.up hb3);have HB3:=hiD (HB.out.trans (hb3.mono HB.out.size));clear ho3 hb3 HH HB;have HC:=hiD (hoodSame_any A M3 n hexL.length c c3 l hexL w5 HH3.out HO3.out HN.out (by have:=hex_len;unfold maxLen;omega));go_wp2_with fail;refine HC.out.mono ?_;rintro e w6 ⟨rfl,hb⟩;have HB:=hiD (HB3.out.trans (hb.mono HB3.out.size));have HH:=hiD (HH3.out.up hb);clear hb HC HB3 HH3 HO3;by_cases h3:l=hexL
 ·have d3:decide (l=hexL)=true:=decide_eq_true h3;have HL:Hid (letterB l=true):=hiD (by unfold letterB;rw [d1,d2,d3];rfl);clear h3;go_wp2_with fail;go_ret2;exact ⟨⟨#[72]⟩,by rw [HL.out];rfl,HB.out⟩
 have d3:decide (l=hexL)=false:=decide_eq_false h3;have HL:Hid (letterB l=false):=hiD (by unfold letterB;rw [d1,d2,d3];rfl);clear h3;go_wp2_with fail;go_ret2;exact ⟨⟨#[]⟩,by rw [HL.out];rfl,HB.out⟩
structure Tot where
 hood:List Pt
 states:Int
 birth:List Int
 survive:List Int
structure TotAt (w:World) (x:Tot) (HA BA SA:Option Addr) (hn bn sn:Nat):Prop where
 h:Rd w w.heap.size 2 HA hn (hoodCells x.hood)
 b:Rd w w.heap.size 1 BA bn (ints x.birth)
 s:Rd w w.heap.size 1 SA sn (ints x.survive)
 hm:hn≤1000000
 bm:bn≤1000000
 sm:sn≤1000000
theorem TotAt.up {w w':World} {x:Tot} {HA BA SA:Option Addr} {hn bn sn:Nat} (h:TotAt w x HA BA SA hn bn sn) (hb:Below w.heap.size w w'):TotAt w' x HA BA SA hn bn sn:=⟨h.h.up hb,h.b.up hb,h.s.up hb,h.hm,h.bm,h.sm⟩
def rightTot (x:Tot) (n:Int):Bool:=letterB x.hood && decide (2≤x.states) && decide (x.states≤8) && ascB x.birth n && ascB x.survive n
set_option maxRecDepth 100000 in
set_option maxHeartbeats 2000000 in
theorem rightTot_any (x:Tot) (HA BA SA:Option Addr) (hn hc bn bc sn sc:Nat) (w:World) (h:TotAt w x HA BA SA hn bn sn):
 Calls Tryz.prog 51 #[.agg #[.slice HA hn hc,.int .i64 x.states,.slice BA bn bc,.slice SA sn sc]] w fun e w'=>e=.returned (.bool (rightTot x ((hn:Int) - 1)))∧Below w.heap.size w w':=by
 have HT:=hiD h;have hm:=h.hm;clear h;go_enter Tryz.func51,Tryz.ntmps51;go_upto_region 1 with fail;obtain ⟨w1,hW9,RT,hgr9⟩:=laid1 w [.slice HA hn hc,.int .i64 x.states,.slice BA bn bc,.slice SA sn sc] 51;rewrite [hW9];clear hW9;have B_w:=hiD hgr9;clear hgr9;obtain ⟨k0,k1,k2,k3,kl⟩:=RT.out.cells4;have HT1:=hiD (HT.out.up B_w.out);have HC:=hiD (letter_any x.hood HA hn hc w1 HT1.out.h (by unfold maxLen;omega));go_wp2_with fail;refine HC.out.mono ?_;rintro e w2 ⟨s,rfl,hb⟩;have HT2:=hiD (HT1.out.up hb);clear HC HT1 HT;have B_w:=hiD (below_on2 B_w.out hb);have B_w1:=hiD hb;clear k0 k1 k2 k3 kl;clear hb;have hw1:IntKind.i64.wrap ((hn:Int) - 1)=(hn:Int) - 1:=IntWalk.i64_in _ (by omega);obtain ⟨k0,k1,k2,k3,kl⟩:=(rowCells RT.out B_w1.out).cells4
 cases hl:letterB x.hood with
 | false=>
  have HF:Hid (rightTot x ((hn:Int) - 1)=false):=hiD (by unfold rightTot;rw [hl];rfl);clear hl;go_wp2_with fail;go_ret;exact ⟨by rw [HF.out];rfl,B_w.out⟩
 | true=>
 by_cases h2:2≤x.states
 ·have d2:decide (2≤x.states)=true:=decide_eq_true h2;by_cases h8:x.states≤8
  ·have d8:decide (x.states≤8)=true:=decide_eq_true h8;have HC:=hiD (ascends_any x.birth BA bn bc ((hn:Int) - 1) w2 HT2.out.b (by have:=HT2.out.bm;unfold maxLen;omega));have HD:=hiD (ascends_any x.survive SA sn sc ((hn:Int) - 1) w2 HT2.out.s (by have:=HT2.out.sm;unfold maxLen;omega));have HF:Hid (rightTot x ((hn:Int) - 1)=(ascB x.birth ((hn:Int) - 1) && ascB x.survive ((hn:Int) - 1))):=hiD (by unfold rightTot;rw [hl,d2,d8];rfl);clear hl h2 h8;revert HF HC HD;generalize ascB x.birth ((hn:Int) - 1)=q1;generalize ascB x.survive ((hn:Int) - 1)=q2;intro HC HD HF;go_wp2_with fail
   with_reducible refine HC.out.mono ?_
   rintro e w3 ⟨rfl,rfl⟩;clear HC
   cases q1 with
   | false=>
    go_wp2_with fail;go_ret;exact ⟨by rw [HF.out];rfl,B_w.out⟩
   | true=>
    go_wp2_with fail;refine HD.out.mono ?_;rintro e w4 ⟨rfl,rfl⟩;clear HD;go_wp2_with fail;go_ret;exact ⟨by rw [HF.out];rfl,B_w.out⟩
  ·have d8:decide (x.states≤8)=false:=decide_eq_false h8;have HF:Hid (rightTot x ((hn:Int) - 1)=false):=hiD (by unfold rightTot;rw [d8];simp);clear hl;go_wp2_with fail;go_ret;exact ⟨by rw [HF.out];rfl,B_w.out⟩
 ·have d2:decide (2≤x.states)=false:=decide_eq_false h2;have HF:Hid (rightTot x ((hn:Int) - 1)=false):=hiD (by unfold rightTot;rw [d2];simp);clear hl;go_wp2_with fail;go_ret;exact ⟨by rw [HF.out];rfl,B_w.out⟩
end Go.Proofs.YtbijfnbelkbofaaGreatDoor
namespace Go.Proofs.YtbijfnbelkbofaaGreatDoor
open Go.Lib
namespace KU
structure TB where
 ns:List Nd
 seen:List ((Int × Int) × Int)
def placeV (k:Int × Int):Value:=.agg #[.int .i64 k.1,.int .i64 k.2]
theorem placeV_inj {a b:Int × Int} (h:placeV a=placeV b):a=b:=by
 unfold placeV at h;injection h with h;have:=congrArg Array.toList h
 simp at this
 exact Prod.ext this.1 this.2
def keyB (lev:Int) (l:List Int):List UInt8:=UInt8.ofNat lev.toNat :: KT.keyR l
theorem keyB_inj {a b:Int} {l m:List Int} (ha:0≤a∧a < 256) (hb:0≤b∧b < 256) (hl:∀ k ∈ l,0≤k) (hm:∀ k ∈ m,0≤k) (h:keyB a l=keyB b m):a=b∧l=m:=by
 unfold keyB at h;injection h with h1 h2;refine ⟨?_,KT.keyR_inj l m hl hm h2⟩;have:=congrArg UInt8.toNat h1;rw [UInt8.toNat_ofNat_of_lt' (by show _ < 256;omega),UInt8.toNat_ofNat_of_lt' (by show _ < 256;omega)] at this;omega
theorem keyB_nil (lev:Int):keyB lev []=[UInt8.ofNat lev.toNat]:=rfl
theorem keyB_snoc (lev:Int) (l:List Int) (k:Int):keyB lev (l ++ [k])=keyB lev l ++ [32] ++ itoa k:=by simp [keyB,KT.keyR]
def keyVB (lev:Int) (next:List Int):Value:=.string (KT.mkS (keyB lev next))
open Classical in
noncomputable def idsB (ns:List Nd) (v:Value):Option Value:=(ns.findIdx? (fun x=>decide (v=keyVB x.level x.next))).map (fun (i:Nat)=>Value.int .i64 (i:Int))
theorem idsB_nil (v:Value):idsB [] v=none:=rfl
theorem keyVB_inj {a b:Int} {l m:List Int} (ha:0≤a∧a < 256) (hb:0≤b∧b < 256) (hl:∀ k ∈ l,0≤k) (hm:∀ k ∈ m,0≤k) (h:keyVB a l=keyVB b m):a=b∧l=m:=by
 unfold keyVB at h;injection h with h;exact keyB_inj ha hb hl hm (KT.mkS_inj h)
structure NsOk (S:Nat) (ns:List Nd):Prop where
 lev:∀ x ∈ ns,(0≤x.level∧x.level < 256)∧x.next.length=S
 nn:∀ x ∈ ns,∀ k ∈ x.next,0≤k
open Classical in
theorem idsB_key {S:Nat} {ns:List Nd} (h:NsOk S ns) {lev:Int} {next:List Int} (hl:0≤lev∧lev < 256) (hn:∀ k ∈ next,0≤k):idsB ns (keyVB lev next)=(KT.findNd ns lev next).map (fun (i:Nat)=>Value.int .i64 (i:Int)):=by
 unfold idsB KT.findNd;congr 1;refine KT.findIdx_congr ns fun x hx=>?_
 by_cases e:x.level=lev∧x.next=next
 ·obtain ⟨e1,e2⟩:=e;rw [e1,e2]
  simp
 ·have hne:¬ keyVB lev next=keyVB x.level x.next:=fun e2=>by
   obtain ⟨q1,q2⟩:=keyVB_inj hl (h.lev x hx).1 hn (h.nn x hx) e2;exact e ⟨q1.symm,q2.symm⟩
  have h2:(x.level == lev && x.next == next)=false:=by
   cases h3:(x.level == lev && x.next == next) with
   | false=>rfl
   | true=>simp at h3;exact absurd h3 e
  rw [h2];exact decide_eq_false hne
open Classical in
theorem idsB_push {ns:List Nd} {lev:Int} {next:List Int} (h:idsB ns (keyVB lev next)=none) (v:Value):idsB (ns ++ [⟨lev,next⟩]) v=updK (idsB ns) (keyVB lev next) (.int .i64 (ns.length:Int)) v:=by
 unfold idsB at h ⊢;rw [Option.map_eq_none_iff] at h;rw [List.findIdx?_append];by_cases e:v=keyVB lev next
 ·subst e;rw [h,updK_same]
  simp
 ·rw [updK_other e]
  have:List.findIdx? (fun x:Nd=>decide (v=keyVB x.level x.next)) [⟨lev,next⟩]=none:=by
   rw [List.findIdx?_cons]
   simp [e]
  rw [this]
  simp [idsB]
def look (l:List ((Int × Int) × Int)) (k:Int × Int):Option Int:=(l.find? (fun x=>x.1 == k)).map (·.2)
open Classical in
noncomputable def seenF (l:List ((Int × Int) × Int)) (v:Value):Option Value:=(l.find? (fun x=>decide (v=placeV x.1))).map (fun x=>Value.int .i64 x.2)
theorem seenF_nil (v:Value):seenF [] v=none:=rfl
open Classical in
theorem seenF_key (l:List ((Int × Int) × Int)) (k:Int × Int):seenF l (placeV k)=(look l k).map (Value.int .i64):=by
 induction l with
 | nil=>rfl
 | cons x l ih=>
  unfold seenF look at ih ⊢;rw [List.find?_cons,List.find?_cons];by_cases e:x.1=k
  ·rw [e];simp
  ·have h1:¬ placeV k=placeV x.1:=fun q=>e (placeV_inj q).symm
   have h2:(x.1 == k)=false:=by simpa using e
   rw [decide_eq_false h1,h2];exact ih
open Classical in
theorem seenF_push (l:List ((Int × Int) × Int)) (k:Int × Int) (i:Int) (v:Value):seenF ((k,i) :: l) v=updK (seenF l) (placeV k) (.int .i64 i) v:=by
 by_cases e:v=placeV k
 ·subst e;rw [updK_same];unfold seenF;rw [List.find?_cons]
  simp
 ·rw [updK_other e];unfold seenF;rw [List.find?_cons]
  simp [e]
def loopT (rec:Int→TB→Int × TB):Nat→Nat→List Int→TB→List Int × TB
 | 0,_,next,b=>(next,b)
 | m+1,s,next,b=>loopT rec m (s+1) (next ++ [(rec (s:Int) b).1]) (rec (s:Int) b).2
theorem loopT_succ (rec:Int→TB→Int × TB):∀ (m s:Nat) (next:List Int) (b:TB),
 loopT rec (m+1) s next b=((loopT rec m s next b).1 ++ [(rec ((s+m:Nat):Int) (loopT rec m s next b).2).1],(rec ((s+m:Nat):Int) (loopT rec m s next b).2).2)
 | 0,s,next,b=>by simp [loopT]
 | m+1,s,next,b=>by
  rw [loopT,loopT_succ rec m (s+1),show s+1+m=s+(m+1) by omega];rfl
def endT (a s lev:Int) (q:List Int × TB):Int × TB:=match KT.findNd q.2.ns lev q.1 with
 | some i=>((i:Int),⟨q.2.ns,((a,s),(i:Int)) :: q.2.seen⟩)
 | none=>((q.2.ns.length:Int),⟨q.2.ns ++ [⟨lev,q.1⟩],((a,s),(q.2.ns.length:Int)) :: q.2.seen⟩)
def visitT (S H:Nat) (step:Int→Int→Int→Int) (fin:Int→Int):Nat→Int→TB→Int × TB
 | 0,s,b=>(fin s,b)
 | L+1,s,b=>match look b.seen (((H - (L+1):Nat):Int),s) with
  | some id=>(id,b)
  | none=>endT ((H - (L+1):Nat):Int) s ((L:Int)+1) (loopT (fun j b=>visitT S H step fin L (step s ((H - (L+1):Nat):Int) j) b) S 0 [] b)
theorem nodup_le {α:Type} [BEq α] [LawfulBEq α]:∀ (l m:List α),l.Nodup→(∀ x ∈ l,x ∈ m)→l.length≤m.length
 | [],_,_,_=>Nat.zero_le _
 | a :: l,m,hn,hs=>by
  obtain ⟨h1,h2⟩:=List.nodup_cons.1 hn;have:=nodup_le l (m.erase a) h2 (fun x hx=>(List.mem_erase_of_ne (fun (e:x=a)=>h1 (by rw [← e];exact hx))).2 (hs x (by simp [hx])));have h3:=List.length_erase_of_mem (hs a (by simp));have h4:0 < m.length:=List.length_pos_of_mem (hs a (by simp));simp only [List.length_cons];omega
structure UOk (S M:Nat) (Us:List (Int × Int)) (b:TB):Prop where
 ok:NsOk S b.ns
 len:b.ns.length≤b.seen.length
 nd:(b.seen.map (·.1)).Nodup
 mem:∀ x ∈ b.seen,x.1 ∈ Us
 val:∀ x ∈ b.seen,0≤x.2∧x.2 < M
theorem UOk.le {S M:Nat} {Us:List (Int × Int)} {b:TB} (h:UOk S M Us b):b.ns.length≤Us.length:=by
 have:=nodup_le _ Us h.nd (fun x hx=>by
  obtain ⟨y,hy,rfl⟩:=List.mem_map.1 hx
  exact h.mem y hy)
 rw [List.length_map] at this;exact Nat.le_trans h.len this
structure URes (S M:Nat) (Us:List (Int × Int)) (a:Int) (b:TB) (r:Int × TB):Prop where
 ok:UOk S M Us r.2
 ge:0≤r.1
 lt:r.1 < M
 low:∀ k:Int × Int,k.1 < a→look r.2.seen k=look b.seen k
structure ULoop (S M:Nat) (Us:List (Int × Int)) (a:Int) (b:TB) (s:Nat) (q:List Int × TB):Prop where
 ok:UOk S M Us q.2
 nl:q.1.length=s
 nn:∀ k ∈ q.1,0≤k∧k < M
 low:∀ k:Int × Int,k.1 < a→look q.2.seen k=look b.seen k
structure UHyp (S H M:Nat) (Us:List (Int × Int)) (step:Int→Int→Int→Int) (fin:Int→Int) (K:Nat→Int→Prop):Prop where
 step:∀ (a:Nat) (s:Int) (j:Nat),a < H→K a s→j < S→K (a+1) (step s a j)
 us:∀ (a:Nat) (s:Int),a < H→K a s→((a:Int),s) ∈ Us
 fin:∀ s:Int,K H s→0≤fin s∧fin s < M
 H25:H≤25
 UM:Us.length≤M
 M30:M≤1000000
section
variable {S H M:Nat} {Us:List (Int × Int)} {step:Int→Int→Int→Int} {fin:Int→Int} {K:Nat→Int→Prop}
theorem loop_resT {L:Nat} {f:Int→Int} {b:TB} {a:Int} (hrec:∀ (j:Nat) (b:TB),j < S→UOk S M Us b→URes S M Us a b (visitT S H step fin L (f j) b)) (hb:UOk S M Us b):
 ∀ s:Nat,s≤S→ULoop S M Us a b s (loopT (fun j b=>visitT S H step fin L (f j) b) s 0 [] b)
 | 0,_=>⟨hb,rfl,by simp [loopT],fun _ _=>rfl⟩
 | s+1,hs=>by
  have h:=loop_resT hrec hb s (by omega);rw [loopT_succ,Nat.zero_add];have hr:=hrec s (loopT (fun j b=>visitT S H step fin L (f j) b) s 0 [] b).2 (by omega) h.ok;refine ⟨hr.ok,by simp [h.nl],fun k hk=>?_,fun k hk=>(hr.low k hk).trans (h.low k hk)⟩;rcases List.mem_append.1 hk with hk | hk
  ·exact h.nn k hk
  ·simp at hk;subst hk;exact ⟨hr.ge,hr.lt⟩
theorem look_none {l:List ((Int × Int) × Int)} {k:Int × Int} (h:look l k=none):k ∉ l.map (·.1):=by
 unfold look at h;rw [Option.map_eq_none_iff,List.find?_eq_none] at h;intro hk;obtain ⟨x,hx,rfl⟩:=List.mem_map.1 hk;exact h x hx (by simp)
theorem look_some {l:List ((Int × Int) × Int)} {k:Int × Int} {i:Int} (h:look l k=some i):∃ x ∈ l,x.2=i:=by
 unfold look at h;rw [Option.map_eq_some_iff] at h;obtain ⟨x,hx,rfl⟩:=h;exact ⟨x,List.mem_of_find?_eq_some hx,rfl⟩
theorem end_res {a:Nat} {s lev:Int} {q:List Int × TB} {b:TB} (hl:0≤lev∧lev < 256) (h:ULoop S M Us ((a:Int)+1) b S q) (hn:look b.seen ((a:Int),s)=none) (hu:((a:Int),s) ∈ Us) (hUM:Us.length≤M):URes S M Us (a:Int) b (endT a s lev q):=by
 have hq:=look_none ((h.low ((a:Int),s) (by show (a:Int) < _;omega)).trans hn)
 have hle:q.2.seen.length+1≤Us.length:=by
  have:=nodup_le (((a:Int),s) :: q.2.seen.map (·.1)) Us (List.nodup_cons.2 ⟨hq,h.ok.nd⟩) (fun x hx=>by
   rcases List.mem_cons.1 hx with rfl | hx
   ·exact hu
   ·obtain ⟨y,hy,rfl⟩:=List.mem_map.1 hx
    exact h.ok.mem y hy)
  simpa using this
 have hlow:∀ (i:Int) (k:Int × Int),k.1 < (a:Int)→look ((((a:Int),s),i) :: q.2.seen) k=look b.seen k:=fun i k hk=>by
  rw [← h.low k (by omega)];unfold look;rw [List.find?_cons]
  have:(((a:Int),s) == k)=false:=by
   simp only [beq_eq_false_iff_ne];intro e;rw [← e] at hk;exact absurd hk (by show ¬ (a:Int) < a;omega)
  rw [show (((((a:Int),s),i):(Int × Int) × Int).1 == k)=false from this]
 have hlen:=h.ok.len;unfold endT
 cases hf:KT.findNd q.2.ns lev q.1 with
 | some i=>
  have hi:i < q.2.ns.length:=(List.findIdx?_eq_some_iff_getElem.1 hf).1;refine ⟨⟨h.ok.ok,by simp;omega,by simpa using ⟨by simpa using hq,h.ok.nd⟩,fun x hx=>?_,fun x hx=>?_⟩,by simp,by simp;omega,hlow _⟩
  ·rcases List.mem_cons.1 hx with rfl | hx
   ·exact hu
   ·exact h.ok.mem x hx
  ·rcases List.mem_cons.1 hx with rfl | hx
   ·exact ⟨by simp,by simp;omega⟩
   ·exact h.ok.val x hx
 | none=>
  refine ⟨⟨⟨fun x hx=>?_,fun x hx k hk=>?_⟩,by simp;omega,by simpa using ⟨by simpa using hq,h.ok.nd⟩,fun x hx=>?_,fun x hx=>?_⟩,by simp,by simp;omega,hlow _⟩
  ·rcases List.mem_append.1 hx with hx | hx
   ·exact h.ok.ok.lev x hx
   ·simp at hx;subst hx;exact ⟨hl,h.nl⟩
  ·rcases List.mem_append.1 hx with hx | hx
   ·exact h.ok.ok.nn x hx k hk
   ·simp at hx;subst hx;exact (h.nn k hk).1
  ·rcases List.mem_cons.1 hx with rfl | hx
   ·exact hu
   ·exact h.ok.mem x hx
  ·rcases List.mem_cons.1 hx with rfl | hx
   ·exact ⟨by simp,by simp;omega⟩
   ·exact h.ok.val x hx
theorem visit_res (hy:UHyp S H M Us step fin K):∀ (L:Nat) (s:Int) (b:TB),L≤H→K (H - L) s→UOk S M Us b→URes S M Us ((H - L:Nat):Int) b (visitT S H step fin L s b)
 | 0,s,b,hl,hk,hb=>⟨hb,(hy.fin s hk).1,(hy.fin s hk).2,fun _ _=>rfl⟩
 | L+1,s,b,hl,hk,hb=>by
  unfold visitT
  cases hlk:look b.seen (((H - (L+1):Nat):Int),s) with
  | some id=>
   obtain ⟨x,hx,rfl⟩:=look_some hlk;exact ⟨hb,(hb.val x hx).1,(hb.val x hx).2,fun _ _=>rfl⟩
  | none=>
   have h25:=hy.H25;have e:H - (L+1)+1=H - L:=by omega
   have h:=loop_resT (S:=S) (H:=H) (M:=M) (Us:=Us) (step:=step) (fin:=fin) (L:=L) (f:=fun j=>step s ((H - (L+1):Nat):Int) j) (b:=b) (a:=((H - L:Nat):Int)) (fun j b' hj hb'=>visit_res hy L _ b' (by omega) (by rw [← e];exact hy.step _ s j (by omega) hk hj) hb') hb S (Nat.le_refl _);refine end_res (by omega) ?_ hlk (hy.us _ s (by omega) hk) hy.UM;rw [← e] at h;have e2:(((H - (L+1)+1:Nat)):Int)=((H - (L+1):Nat):Int)+1:=by omega
   rw [e2] at h;exact h
end
end KU
end Go.Proofs.YtbijfnbelkbofaaGreatDoor
