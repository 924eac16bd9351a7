/-
  Lemmas for the law TopCircuits.
-/
import Derived.Test.YtbijfnbelkbofaaGreatDoorJZ17
import Derived.Test.YtbijfnbelkbofaaGreatDoorJZ21
import Derived.Deep.RegionHeld3
import Derived.Test.YtbijfnbelkbofaaGreatDoorJZ35
set_option linter.unusedSimpArgs false
set_option linter.unusedVariables false
namespace Go.Proofs.YtbijfnbelkbofaaGreatDoor
open Go.RowKit
theorem idx_some {l:List Pt} {p:Pt} (h:KT.hasPt l p=true):∃ m,KT.idxPt l p=some m∧m < l.length:=by
 unfold KT.idxPt
 cases hi:l.findIdx? (KT.samePt p) with
 | none=>
  have:=List.findIdx?_eq_none_iff.1 hi;unfold KT.hasPt at h;obtain ⟨x,hx,e⟩:=List.any_eq_true.1 h;rw [this x hx] at e;cases e
 | some m=>exact ⟨m,rfl,(List.findIdx?_eq_some_iff_findIdx_eq.1 hi).1⟩
def turnAt (t:KT.Tab) (k:Nat) (ins:List Int) (i:Nat):List Int:=(KT.turnK t k ins).take i ++ List.replicate (t.hood.length - i) 0
theorem turnAt_len (t:KT.Tab) (k:Nat) (ins:List Int) {i:Nat} (h:i≤t.hood.length):(turnAt t k ins i).length=t.hood.length:=by
 simp [turnAt,KT.turnK];omega
theorem turnAt_set (t:KT.Tab) (k:Nat) (ins:List Int) {i:Nat} (h:i < t.hood.length):(turnAt t k ins i).set i (ins.getD ((KT.idxPt t.hood (KT.applyS k (t.hood.getD i default))).getD 0) 0)=turnAt t k ins (i+1):=by
 unfold turnAt;have hl:(KT.turnK t k ins).length=t.hood.length:=by simp [KT.turnK]
 obtain ⟨m,hm⟩:∃ m,t.hood.length - i=m+1:=⟨t.hood.length - i - 1,by omega⟩
 rw [List.set_append_right _ _ (by rw [List.length_take];omega),List.length_take,hl,show min i t.hood.length=i by omega,Nat.sub_self,hm,List.replicate_succ,List.set_cons_zero,show t.hood.length - (i+1)=m by omega,List.take_succ_eq_append_getElem (by rw [hl];exact h),List.append_assoc];congr 1;simp only [KT.turnK,List.getElem_map,List.singleton_append];rw [List.getD_eq_getElem?_getD (l:=t.hood),List.getElem?_eq_getElem h];rfl
theorem turnAt_zero (t:KT.Tab) (k:Nat) (ins:List Int):turnAt t k ins 0=List.replicate t.hood.length 0:=by simp [turnAt]
theorem turnAt_all (t:KT.Tab) (k:Nat) (ins:List Int):turnAt t k ins t.hood.length=KT.turnK t k ins:=by
 unfold turnAt;rw [List.take_of_length_le (by simp [KT.turnK]),Nat.sub_self];simp
structure BAt2 (w:World) (g:Nat) (l:List Int):Prop where
 row:Row w g 3 (ints l)
section
variable {w:World} {g:Nat} {l:List Int}
theorem BAt2.cell (h:BAt2 w g l) {i:Nat} (hi:i < l.length):w.cell? ⟨g,i,none⟩=some (.int .i64 (l.getD i 0)):=by
 rw [Row.cell h.row,ints_get l i hi]
theorem BAt2.frozen (h:BAt2 w g l) (i:Nat):w.frozen? ⟨g,i,none⟩=false:=Row.frozen h.row i
theorem BAt2.lt (h:BAt2 w g l):g < w.heap.size:=Row.lt h.row
theorem BAt2.set (h:BAt2 w g l) (i:Nat) (z:Int):BAt2 (w.setCell ⟨g,i,none⟩ (.int .i64 z)) g (l.set i z):=by
 have:=Row.set h.row i (.int .i64 z);refine ⟨?_⟩;unfold ints;rw [List.map_set];exact this
end
set_option maxRecDepth 100000 in
set_option maxHeartbeats 2000000 in
theorem turned_any (t:KT.Tab) (P:TP) (k:Nat) (ins:List Int) (IA:Option Addr) (n ic:Nat) (w:World) (h:TabAt w t P) (hmat:MatAt w) (hk8:k < 8) (hh:hoodOk t.hood=true) (hmp:KT.mapsTo t.hood k=true) (hi:Rd w w.heap.size 1 IA n (ints ins)) (hl:t.hood.length=n):
 Calls Tryz.prog 153 #[.agg #[.int .i64 t.states,.int .i64 t.sym,.slice P.HA P.hn P.hc,.slice P.VA P.vn P.vc,.slice P.RA P.rn P.rc],.int .i64 (k:Int),.slice IA n ic] w fun e w'=>∃ g,e=.returned (.slice (some ⟨g,0,none⟩) n n)∧Row w' g 3 (ints (KT.turnK t k ins))∧Below w.heap.size w w':=by
 obtain ⟨HA,hn,hc,VA,vn,vc,RA,rn,rc,vs,rs⟩:=P;dsimp only;have H:=hiD h;have HM:=hiD hmat;have HI:=hiD hi;have HLH:=hiD hl;have HPT:=hiD (hood_pts hh)
 have HMP:Hid (∀ p ∈ t.hood,KT.hasPt t.hood (KT.applyS k p)=true):=by
  unfold KT.mapsTo at hmp;exact List.all_eq_true.1 hmp
 have hn25:n≤25∧1≤n:=by
  unfold hoodOk at hh;simp only [Bool.and_eq_true,decide_eq_true_eq] at hh;omega
 have hnn:hn=n:=by have:=h.hl;dsimp only at this;omega
 subst hnn;clear h hmat hi hl hh hmp;have hmk:=fun W=>make_like (P:=Tryz.prog) Tryz.underlying22 int_infoE rfl hn (hn:Int) rfl (by omega) (by omega) W
 go_enter Tryz.func153,Tryz.ntmps153;go_upto_region 2 with fail;have RT1:Hid (Row (World.alloc (World.alloc w (.cells #[.int .i64 t.states,.int .i64 t.sym,.slice HA hn hc,.slice VA vn vc,.slice RA rn rc] 60)) (.cells (likeRow (.int .i64 0) hn) 3)) w.heap.size 60 [.int .i64 t.states,.int .i64 t.sym,.slice HA hn hc,.slice VA vn vc,.slice RA rn rc]):=(Row.new w 60 [.int .i64 t.states,.int .i64 t.sym,.slice HA hn hc,.slice VA vn vc,.slice RA rn rc]).alloc _
 have HB1:Hid (Below w.heap.size w (World.alloc (World.alloc w (.cells #[.int .i64 t.states,.int .i64 t.sym,.slice HA hn hc,.slice VA vn vc,.slice RA rn rc] 60)) (.cells (likeRow (.int .i64 0) hn) 3))):=(show Below _ _ _ by go_grown)
 have RO1:Hid (Row (World.alloc (World.alloc w (.cells #[.int .i64 t.states,.int .i64 t.sym,.slice HA hn hc,.slice VA vn vc,.slice RA rn rc] 60)) (.cells (likeRow (.int .i64 0) hn) 3)) (w.heap.size+1) 3 (ints (turnAt t k ins 0))):=by
  have h0:=Row.new (World.alloc w (.cells #[.int .i64 t.states,.int .i64 t.sym,.slice HA hn hc,.slice VA vn vc,.slice RA rn rc] 60)) 3 (List.replicate hn (.int .i64 0));rw [World.size_alloc] at h0;rw [turnAt_zero,HLH.out,show ints (List.replicate hn 0)=List.replicate hn (.int .i64 0) by simp [ints]];exact h0
 revert RT1 HB1 RO1;generalize (World.alloc (World.alloc w (.cells #[.int .i64 t.states,.int .i64 t.sym,.slice HA hn hc,.slice VA vn vc,.slice RA rn rc] 60)) (.cells (likeRow (.int .i64 0) hn) 3))=w1;intro RT1 HB1 RO1;obtain ⟨k0,k1,k2,k3,k4,kl⟩:=RT1.out.cells5;go_wp2;clear k0 k1 k2 k3 k4 kl
 go_loopg [8,9,16] hn (fun gg _ _ s16 wr=>∃ i:Nat,i≤hn∧hn - i≤gg∧s16=.int .i64 (i:Int)∧Aside (Below w.heap.size w wr∧Row wr w.heap.size 60 [.int .i64 t.states,.int .i64 t.sym,.slice HA hn hc,.slice VA vn vc,.slice RA rn rc]∧Row wr (w.heap.size+1) 3 (ints (turnAt t k ins i))))
 case atStart=>exact ⟨0,by omega,by omega,rfl,HB1.out,RT1.out,RO1.out⟩
 case round=>
  obtain ⟨i,hi,hgg,rfl,hv⟩:=hrel;have HB:=hiD hv.out.1;have RT3:=hiD hv.out.2.1;have RO3:=hiD hv.out.2.2;clear hv RT1 HB1 RO1;by_cases hlt:i < hn
  ·have hltz:(i:Int) < (hn:Int):=by omega
   obtain ⟨ad,hha,hbh,hx,hy⟩:=hood_rowK (H.out.up HB.out).hood hlt;dsimp only at hha;subst hha
   have hqm:t.hood.getD i default ∈ t.hood:=by
    rw [List.getD_eq_getElem?_getD,List.getElem?_eq_getElem (by rw [HLH.out];exact hlt)];exact List.getElem_mem _
   obtain ⟨m,hm,hml⟩:=idx_some (HMP.out _ hqm);have HSET:Hid ((turnAt t k ins i).set i (ins.getD ((KT.idxPt t.hood (KT.applyS k (t.hood.getD i default))).getD 0) 0)=turnAt t k ins (i+1)):=turnAt_set t k ins (by rw [HLH.out];exact hlt);have HPQ:=hiD (HPT.out _ hqm);clear hqm;revert hx hy hm HSET HPQ;generalize t.hood.getD i default=q;intro hx hy hm HSET HPQ;obtain ⟨adi,rfl,hbi,hz⟩:=HI.out.int (k:=m) (by rw [← HLH.out];exact hml);rw [hm,Option.getD_some] at HSET;have HIX:Hid (idxI t.hood (KT.applyS k q)=(m:Int)):=by show _=_;unfold idxI;rw [hm]
   have hml:m < hn:=by rw [← HLH.out];exact hml
   have hmlz:(m:Int) < (hn:Int):=by omega
   clear hm;revert hz HSET;generalize ins.getD m 0=z;intro HSET hz;obtain ⟨k0,k1,k2,k3,k4,kl⟩:=RT3.out.cells5;go_upto_region 5 with fail;clear hx hy k0 k1 k2 k3 k4 kl;have RB5:Hid (Row (World.alloc wr (.cells #[.int .i64 q.x,.int .i64 q.y] 114)) wr.heap.size 114 [.int .i64 q.x,.int .i64 q.y]):=Row.new wr _ [.int .i64 q.x,.int .i64 q.y];have HB5:Hid (Below w.heap.size w (World.alloc wr (.cells #[.int .i64 q.x,.int .i64 q.y] 114))):=HB.out.alloc HB.out.size _;have RT5:Hid (Row (World.alloc wr (.cells #[.int .i64 q.x,.int .i64 q.y] 114)) w.heap.size 60 [.int .i64 t.states,.int .i64 t.sym,.slice (some ad) hn hc,.slice VA vn vc,.slice RA rn rc]):=RT3.out.alloc _;have RO5:Hid (Row (World.alloc wr (.cells #[.int .i64 q.x,.int .i64 q.y] 114)) (w.heap.size+1) 3 (ints (turnAt t k ins i))):=RO3.out.alloc _;have hpb:w.heap.size+1 < wr.heap.size:=RO3.out.lt;clear RT3 RO3 HB;revert RB5 HB5 RT5 RO5 hpb;generalize (World.alloc wr (.cells #[.int .i64 q.x,.int .i64 q.y] 114))=w5;generalize wr.heap.size=pb;intro RB5 HB5 RT5 RO5 hpb
   have HS:∀ w',Kept (·=w.heap.size+1) w5 w'→w'.cell? ⟨w.heap.size,2,none⟩=some (.slice (some ad) hn hc)∧w'.cell? ⟨pb,0,none⟩=some (.int .i64 q.x)∧w'.cell? ⟨pb,1,none⟩=some (.int .i64 q.y)∧w'.cell? (adi.add m)=some (.int .i64 z):=fun w' hk=>by
    have R2:=hk.row RT5.out (show ¬ w.heap.size=w.heap.size+1 by omega);have R3:=hk.row RB5.out (show ¬ pb=w.heap.size+1 by omega);exact ⟨R2.cell 2,R3.cell 0,R3.cell 1,(hk.cell (p:=adi.add m) (by rw [add_block];have:=HB5.out.size;omega) (by rw [add_block];show ¬ adi.block=_;omega)).trans ((HB5.out.cell (p:=adi.add m) (by rw [add_block];exact hbi)).trans hz)⟩
   clear hz;have hm0:(0:Int)≤(m:Int):=by omega
   have hi0:(0:Int)≤(i:Int):=by omega
   go_region_held3 (fun w'=>w'.cell? ⟨w.heap.size,2,none⟩=some (.slice (some ad) hn hc)∧w'.cell? ⟨pb,0,none⟩=some (.int .i64 q.x)∧w'.cell? ⟨pb,1,none⟩=some (.int .i64 q.y)∧w'.cell? (adi.add m)=some (.int .i64 z)) (exact HS _ (by first | exact Kept.set HKP2.out (.inl rfl) _ | exact HKP2.out | exact HKP.out | exact Kept.ofBelow (by go_grown))) (first
    | (go_at_call 176
       refine (apply_any k hk8 q _ (HM.out.up (by exact HB5.out.drew)) HPQ.out).mono ?_;rintro e w7 ⟨rfl,hb7⟩
       have HKP:=(show Hid (Kept (·=w.heap.size+1) w5 w7) from Kept.trans (Kept.ofBelow (by go_grown)) (Kept.ofBelow (S:=(·=w.heap.size+1)) hb7) (fun _ _ h=>h))
       have HB7:=(show Hid (Below w.heap.size w w7) from below_next hb7 HB5.out.drew)
       have HN7:=(show Hid (Below w5.heap.size w5 w7) from below_next hb7 ((Below.refl _ _).drew))
       clear hb7)
    | (go_at_call 106
       refine (index_pts _ hn hc t.hood (KT.applyS k q) _ (by exact (H.out.up HB7.out).hood) (by omega)).mono ?_;rw [HIX.out];rintro e w9 ⟨rfl,hb9⟩
       have HKP2:=(show Hid (Kept (·=w.heap.size+1) w5 w9) from Kept.trans HKP.out (Kept.ofBelow (S:=(·=w.heap.size+1)) hb9) (fun _ _ h=>h))
       have HB9:=(show Hid (Below w.heap.size w w9) from below_next hb9 HB7.out)
       have HN9:=(show Hid (Below w5.heap.size w5 w9) from below_next hb9 HN7.out)
       have RO9:=(show Hid (BAt2 w9 (w.heap.size+1) (turnAt t k ins i)) from ⟨rowCells RO5.out HN9.out⟩)
       have ky:=RO9.out.cell (i:=i) (by rw [turnAt_len t k ins (by rw [HLH.out];exact hi),HLH.out];exact hlt);have kf:=RO9.out.frozen i;have kl:=RO9.out.lt
       clear hb9))
   have HBN:Hid (Below w.heap.size w (World.setCell w9 ⟨w.heap.size+1,i,none⟩ (.int .i64 z))):=HB9.out.setCell (by show _≤w.heap.size+1;omega) _;have RTN:Hid (Row (World.setCell w9 ⟨w.heap.size+1,i,none⟩ (.int .i64 z)) w.heap.size 60 [.int .i64 t.states,.int .i64 t.sym,.slice (some ad) hn hc,.slice VA vn vc,.slice RA rn rc]):=(HKP2.out.row RT5.out (show ¬ w.heap.size=w.heap.size+1 by omega)).far (by show w.heap.size≠w.heap.size+1;omega) _
   have RON:Hid (Row (World.setCell w9 ⟨w.heap.size+1,i,none⟩ (.int .i64 z)) (w.heap.size+1) 3 (ints (turnAt t k ins (i+1)))):=by
    have:=(RO9.out.set i z).row;rw [HSET.out] at this;exact this
   clear HS ky kf kl;go_wp2;go_roundg (hn - (i+1))
   case measure=>omega
   case rel=>exact ⟨i+1,by omega,by omega,by go_num,HBN.out,RTN.out,RON.out⟩
  ·have hltz:¬ (i:Int) < (hn:Int):=by omega
   have hih:i=t.hood.length:=by rw [HLH.out];omega
   rw [hih,turnAt_all] at RO3;go_wp2;go_ret;exact ⟨_,rfl,RO3.out,HB.out⟩
end Go.Proofs.YtbijfnbelkbofaaGreatDoor
namespace Go.Proofs.YtbijfnbelkbofaaGreatDoor
open Go.RowKit
def decQ (t:KT.Tab) (r:KT.Rw) (ins:List Int) (k:Nat):Option Int:=(List.range k).foldl (fun (acc:Option Int) (k:Nat)=>match KT.plainK t r (KT.turnK t k ins) with | some s=>KT.least acc s | none=>acc) none
theorem decQ_succ (t:KT.Tab) (r:KT.Rw) (ins:List Int) (k:Nat):decQ t r ins (k+1)=match KT.plainK t r (KT.turnK t k ins) with | some s=>KT.least (decQ t r ins k) s | none=>decQ t r ins k:=by
 unfold decQ;rw [List.range_succ,List.foldl_append];rfl
theorem mapsTo_mem {l:List Pt} {k:Nat} (h:KT.mapsTo l k=true):∀ p ∈ l,KT.applyS k p ∈ l:=fun p hp=>KT.hasPt_mem.1 (List.all_eq_true.1 h p hp)
theorem mapsTo_of {l:List Pt} {k:Nat} (h:∀ p ∈ l,KT.applyS k p ∈ l):KT.mapsTo l k=true:=List.all_eq_true.2 fun p hp=>KT.hasPt_mem.2 (h p hp)
theorem applyS_0 (p:Pt):KT.applyS 0 p=p:=by
 cases p;simp [KT.applyS,KT.mat,KT.matL]
theorem applyS_2 (p:Pt):KT.applyS 2 p=KT.applyS 1 (KT.applyS 1 p):=by
 cases p;simp [KT.applyS,KT.mat,KT.matL]
theorem applyS_3 (p:Pt):KT.applyS 3 p=KT.applyS 1 (KT.applyS 2 p):=by
 cases p;simp [KT.applyS,KT.mat,KT.matL]
theorem turns_ok {l:List Pt} {sym:Int} (hh:hoodOk l=true) (hp:KT.permitsK l sym=true) (h3:sym≠3):∀ k,k < KT.turnsN sym→k < 8∧KT.mapsTo l k=true:=by
 have h0:KT.mapsTo l 0=true:=mapsTo_of fun p hp=>by rw [applyS_0];exact hp
 unfold KT.permitsK KT.symsL at hp;rw [if_pos hh] at hp;intro k hk;unfold KT.turnsN at hk;by_cases s1:sym=1
 ·subst s1;rw [if_neg (by decide),if_pos rfl] at hp;rw [if_pos rfl] at hk
  have h1:KT.mapsTo l 1=true:=by
   have:=(List.contains_iff_mem.1 hp)
   exact (List.mem_filter.1 this).2
  have h2:KT.mapsTo l 2=true:=mapsTo_of fun p hp=>by rw [applyS_2];exact mapsTo_mem h1 _ (mapsTo_mem h1 _ hp)
  have h3:KT.mapsTo l 3=true:=mapsTo_of fun p hp=>by rw [applyS_3];exact mapsTo_mem h1 _ (mapsTo_mem h2 _ hp)
  refine ⟨by omega,?_⟩
  match k,hk with
  | 0,_=>exact h0
  | 1,_=>exact h1
  | 2,_=>exact h2
  | 3,_=>exact h3
 ·rw [if_neg s1] at hk;by_cases s2:sym=2
  ·subst s2;rw [if_neg (by decide),if_neg (by decide),if_pos rfl] at hp;rw [if_pos rfl] at hk;have hl:=of_decide_eq_true hp;have:=List.length_filter_eq_length_iff.1 (hl.trans (List.length_range).symm);exact ⟨hk,this k (List.mem_range.2 hk)⟩
  ·rw [if_neg s2] at hk;obtain rfl:k=0:=by omega
   exact ⟨by omega,h0⟩
set_option maxRecDepth 100000 in
set_option maxHeartbeats 4000000 in
theorem decide_any (t:KT.Tab) (P:TP) (r:KT.Rw) (ins:List Int) (qa IA:Option Addr) (qc n ic:Nat) (w:World) (h:TabAt w t P) (hmat:MatAt w) (hq:Rd w w.heap.size 1 qa n (ints r.ins)) (hi:Rd w w.heap.size 1 IA n (ints ins))
 (hh:t.hood.length=n) (hho:hoodOk t.hood=true) (hpe:KT.permitsK t.hood t.sym=true) (hv40:t.vars.length≤40) (he:∀ e ∈ r.ins,KT.elemOk t e=true) (ho:KT.elemOk t r.out=true) (hst:∀ i,0≤ins.getD i 0∧ins.getD i 0 < t.states) (hs8:t.states≤8):
 Calls Tryz.prog 124 #[.agg #[.int .i64 t.states,.int .i64 t.sym,.slice P.HA P.hn P.hc,.slice P.VA P.vn P.vc,.slice P.RA P.rn P.rc],.agg #[.slice qa n qc,.int .i64 r.out],.slice IA n ic] w fun e w'=>e=.returned (optV (KT.decideK t r ins))∧Below w.heap.size w w':=by
 have hm:n≤25:=by
  unfold hoodOk at hho;simp only [Bool.and_eq_true,decide_eq_true_eq] at hho;omega
 obtain ⟨HA,hn,hc,VA,vn,vc,RA,rn,rc,vs,rs⟩:=P;dsimp only;have H:=hiD h;have HM:=hiD hmat;have HQ:=hiD hq;have HI:=hiD hi;have HEL:=hiD he;have HST:=hiD hst;have hnn:hn=n:=by have:=h.hl;dsimp only at this;omega
 subst hnn;have HHL:=hiD hh;have HHO:=hiD hho;have HLQ:Hid (r.ins.length=hn):=by have:=hq.1;show _=_;simpa using this
 have HLI:Hid (ins.length=hn):=by have:=hi.1;show _=_;simpa using this
 by_cases h3:t.sym=3
 ·have HD:Hid (∀ _:Unit,KT.decideK t r ins=KT.permK t r ins):=fun _=>by unfold KT.decideK;rw [if_pos h3]
  have HC:=hiD (permuted_any t ⟨HA,hn,hc,VA,vn,vc,RA,rn,rc,vs,rs⟩ r ins qa IA qc hn ic);dsimp only at HC;have HS3:=hiD h3;clear h hmat hq hi he hst hh hho hpe;have s1:(t.sym == 1)=false:=by rw [h3];rfl
  have s2:(t.sym == 2)=false:=by rw [h3];rfl
  have s3:(t.sym == 3)=true:=by rw [h3];rfl
  clear h3;go_enter Tryz.func124,Tryz.ntmps124;go_upto_region 1 with fail
  have RT1:Hid (Row (World.alloc (World.alloc w (.cells #[.int .i64 t.states,.int .i64 t.sym,.slice HA hn hc,.slice VA vn vc,.slice RA rn rc] 60)) (.cells #[.slice qa hn qc,.int .i64 r.out] 179)) (w.heap.size) 60 [.int .i64 t.states,.int .i64 t.sym,.slice HA hn hc,.slice VA vn vc,.slice RA rn rc]):=by
   have h0:=Row.new w 60 [.int .i64 t.states,.int .i64 t.sym,.slice HA hn hc,.slice VA vn vc,.slice RA rn rc]
   try simp only [World.size_alloc] at h0
   exact (h0.alloc _)
  have RR1:Hid (Row (World.alloc (World.alloc w (.cells #[.int .i64 t.states,.int .i64 t.sym,.slice HA hn hc,.slice VA vn vc,.slice RA rn rc] 60)) (.cells #[.slice qa hn qc,.int .i64 r.out] 179)) (w.heap.size+1) 179 [.slice qa hn qc,.int .i64 r.out]):=by
   have h0:=Row.new (World.alloc w (.cells #[.int .i64 t.states,.int .i64 t.sym,.slice HA hn hc,.slice VA vn vc,.slice RA rn rc] 60)) 179 [.slice qa hn qc,.int .i64 r.out]
   try simp only [World.size_alloc] at h0
   exact h0
  have HW9:Hid (Below w.heap.size w (World.alloc (World.alloc w (.cells #[.int .i64 t.states,.int .i64 t.sym,.slice HA hn hc,.slice VA vn vc,.slice RA rn rc] 60)) (.cells #[.slice qa hn qc,.int .i64 r.out] 179))):=by show Below _ _ _;go_grown
  revert RT1 RR1 HW9;generalize (World.alloc (World.alloc w (.cells #[.int .i64 t.states,.int .i64 t.sym,.slice HA hn hc,.slice VA vn vc,.slice RA rn rc] 60)) (.cells #[.slice qa hn qc,.int .i64 r.out] 179))=w1;intro RT1 RR1 HW9;obtain ⟨k0,k1,k2,k3,k4,kl⟩:=RT1.out.cells5;obtain ⟨j0,j1,jl⟩:=RR1.out.cells2;go_wp2_with fail;refine (HC.out w1 (H.out.up HW9.out) (HQ.out.up HW9.out) (HI.out.up HW9.out) hm HHL.out hv40 HEL.out ho HST.out hs8).mono ?_;rintro e w2 ⟨he2,hb2⟩;have he3:e=.returned (.tuple #[.int .i64 ((KT.permK t r ins).getD 0),.bool (KT.permK t r ins).isSome]):=he2;subst he3;have HB2:Hid (Below w.heap.size w w2):=HW9.out.trans (hb2.mono HW9.out.size);clear he2 hb2 k0 k1 k2 k3 k4 kl j0 j1 jl;go_wp2;go_ret2;rw [HD.out ()];exact ⟨rfl,HB2.out⟩
 have HTO:=hiD (turns_ok hho hpe h3);have HD:Hid (∀ _:Unit,KT.decideK t r ins=decQ t r ins (KT.turnsN t.sym)):=fun _=>by unfold KT.decideK;rw [if_neg h3];rfl
 have HN8:Hid (KT.turnsN t.sym≤8):=by show _≤_;unfold KT.turnsN;split <;> (try split) <;> omega
 have HHM:hn≤maxLen:=h.h63;clear h hmat hq hi he hst hh hho;have s3:(t.sym == 3)=false:=by simpa using h3
 clear h3;have key:Hid (∀ N:Nat,KT.turnsN t.sym=N→N≤8→True):=fun _ _ _=>trivial
 have hsy:t.sym=0∨t.sym=1∨t.sym=2:=by
  unfold KT.permitsK at hpe;by_cases a0:t.sym=0
  ·exact .inl a0
  by_cases a1:t.sym=1
  ·exact .inr (.inl a1)
  by_cases a2:t.sym=2
  ·exact .inr (.inr a2)
  rw [if_neg a0,if_neg a1,if_neg a2,if_neg (by simpa using s3)] at hpe
  cases hpe
 clear hpe key
 have hsy2:∃ N:Nat,KT.turnsN t.sym=N∧N≤8∧((t.sym == 1)=true∧N=4∨(t.sym == 1)=false∧(t.sym == 2)=true∧N=8∨(t.sym == 1)=false∧(t.sym == 2)=false∧N=1):=by
  rcases hsy with a | a | a
  ·exact ⟨1,by rw [a];rfl,by omega,.inr (.inr ⟨by rw [a];rfl,by rw [a];rfl,rfl⟩)⟩
  ·exact ⟨4,by rw [a];rfl,by omega,.inl ⟨by rw [a];rfl,rfl⟩⟩
  ·exact ⟨8,by rw [a];rfl,by omega,.inr (.inl ⟨by rw [a];rfl,by rw [a];rfl,rfl⟩)⟩
 clear hsy HN8;obtain ⟨N,hN,hN8,hcs⟩:=hsy2;rw [hN] at HTO HD;clear hN;go_enter Tryz.func124,Tryz.ntmps124;go_upto_region 1 with fail
 have RT1:Hid (Row (World.alloc (World.alloc w (.cells #[.int .i64 t.states,.int .i64 t.sym,.slice HA hn hc,.slice VA vn vc,.slice RA rn rc] 60)) (.cells #[.slice qa hn qc,.int .i64 r.out] 179)) (w.heap.size) 60 [.int .i64 t.states,.int .i64 t.sym,.slice HA hn hc,.slice VA vn vc,.slice RA rn rc]):=by
  have h0:=Row.new w 60 [.int .i64 t.states,.int .i64 t.sym,.slice HA hn hc,.slice VA vn vc,.slice RA rn rc]
  try simp only [World.size_alloc] at h0
  exact (h0.alloc _)
 have RR1:Hid (Row (World.alloc (World.alloc w (.cells #[.int .i64 t.states,.int .i64 t.sym,.slice HA hn hc,.slice VA vn vc,.slice RA rn rc] 60)) (.cells #[.slice qa hn qc,.int .i64 r.out] 179)) (w.heap.size+1) 179 [.slice qa hn qc,.int .i64 r.out]):=by
  have h0:=Row.new (World.alloc w (.cells #[.int .i64 t.states,.int .i64 t.sym,.slice HA hn hc,.slice VA vn vc,.slice RA rn rc] 60)) 179 [.slice qa hn qc,.int .i64 r.out]
  try simp only [World.size_alloc] at h0
  exact h0
 have HW9:Hid (Below w.heap.size w (World.alloc (World.alloc w (.cells #[.int .i64 t.states,.int .i64 t.sym,.slice HA hn hc,.slice VA vn vc,.slice RA rn rc] 60)) (.cells #[.slice qa hn qc,.int .i64 r.out] 179))):=by show Below _ _ _;go_grown
 revert RT1 RR1 HW9;generalize (World.alloc (World.alloc w (.cells #[.int .i64 t.states,.int .i64 t.sym,.slice HA hn hc,.slice VA vn vc,.slice RA rn rc] 60)) (.cells #[.slice qa hn qc,.int .i64 r.out] 179))=w1;intro RT1 RR1 HW9;obtain ⟨k0,k1,k2,k3,k4,kl⟩:=RT1.out.cells5;rcases hcs with ⟨s1,hNv⟩ | ⟨s1,s2,hNv⟩ | ⟨s1,s2,hNv⟩
 ·skip
  subst hNv;go_wp2;clear k0 k1 k2 k3 k4 kl s1 s3
  go_loopg [6,7,9,10,11,27] 4 (fun gg s6 s7 _ _ _ s27 wr=>∃ k:Nat,k≤4∧4 - k≤gg∧s27=.int .i64 (k:Int)∧s6=.int .i64 ((decQ t r ins k).getD 0)∧s7=.bool (decQ t r ins k).isSome∧Aside (Below w.heap.size w wr∧Row wr w.heap.size 60 [.int .i64 t.states,.int .i64 t.sym,.slice HA hn hc,.slice VA vn vc,.slice RA rn rc]∧Row wr (w.heap.size+1) 179 [.slice qa hn qc,.int .i64 r.out]))
  case atStart=>exact ⟨0,by omega,by omega,rfl,rfl,rfl,HW9.out,RT1.out,RR1.out⟩
  case round=>
   obtain ⟨k,hk,hgg,rfl,rfl,rfl,hv⟩:=hrel;have HB:=hiD hv.out.1;have RT3:=hiD hv.out.2.1;have RR3:=hiD hv.out.2.2;clear hv HW9 RT1 RR1;by_cases hlt:k < 4
   ·have hltz:(k:Int) < 4:=by omega
    obtain ⟨hk8,hmp⟩:=HTO.out k hlt;have HMP:=hiD hmp;have HDS:Hid (decQ t r ins (k+1)=match KT.plainK t r (KT.turnK t k ins) with | some s=>KT.least (decQ t r ins k) s | none=>decQ t r ins k):=decQ_succ t r ins k;have HCP:=hiD (fun g W=>plain_any t ⟨HA,hn,hc,VA,vn,vc,RA,rn,rc,vs,rs⟩ r (KT.turnK t k ins) qa (some ⟨g,0,none⟩) hn qc hn hn W);dsimp only at HCP;clear hmp;revert HDS HCP;generalize KT.plainK t r (KT.turnK t k ins)=q;generalize decQ t r ins k=acc;intro HDS HCP
    have HS:∀ w',Below wr.heap.size wr w'→w'.cell? ⟨w.heap.size,0,none⟩=some (.int .i64 t.states)∧w'.cell? ⟨w.heap.size,1,none⟩=some (.int .i64 t.sym)∧w'.cell? ⟨w.heap.size,2,none⟩=some (.slice HA hn hc)∧w'.cell? ⟨w.heap.size,3,none⟩=some (.slice VA vn vc)∧w'.cell? ⟨w.heap.size,4,none⟩=some (.slice RA rn rc)∧w'.cell? ⟨w.heap.size+1,0,none⟩=some (.slice qa hn qc)∧w'.cell? ⟨w.heap.size+1,1,none⟩=some (.int .i64 r.out):=fun w' hk=>
     ⟨(rowCells RT3.out hk).cell 0,(rowCells RT3.out hk).cell 1,(rowCells RT3.out hk).cell 2,(rowCells RT3.out hk).cell 3,(rowCells RT3.out hk).cell 4,(rowCells RR3.out hk).cell 0,(rowCells RR3.out hk).cell 1⟩
    have HK0:Hid (Below wr.heap.size wr wr.drew):=(Below.refl _ _).drew;go_upto_region 12 with fail
    go_region_held3 (fun w'=>w'.cell? ⟨w.heap.size,0,none⟩=some (.int .i64 t.states)∧w'.cell? ⟨w.heap.size,1,none⟩=some (.int .i64 t.sym)∧w'.cell? ⟨w.heap.size,2,none⟩=some (.slice HA hn hc)∧w'.cell? ⟨w.heap.size,3,none⟩=some (.slice VA vn vc)∧w'.cell? ⟨w.heap.size,4,none⟩=some (.slice RA rn rc)∧w'.cell? ⟨w.heap.size+1,0,none⟩=some (.slice qa hn qc)∧w'.cell? ⟨w.heap.size+1,1,none⟩=some (.int .i64 r.out)) (first | exact HS _ HN9.out | exact HS _ HN7.out | exact HS _ HK0.out) (first
     | (go_at_call 153
        refine (turned_any t ⟨HA,hn,hc,VA,vn,vc,RA,rn,rc,vs,rs⟩ k ins IA hn ic _ (by exact H.out.up HB.out.drew) (by exact HM.out.up HB.out.drew) hk8 HHO.out HMP.out (by exact HI.out.up HB.out.drew) HHL.out).mono ?_;rintro e w7 ⟨g,rfl,hrow,hb7⟩
        have HN7:=(show Hid (Below wr.heap.size wr w7) from below_on2 HK0.out hb7)
        have HB7:=(show Hid (Below w.heap.size w w7) from below_on2 HB.out HN7.out)
        have HRO:=(show Hid (Row w7 g 3 (ints (KT.turnK t k ins))) from hrow)
        clear hrow hb7)
     | (go_at_call 152
        refine (HCP.out g w7 (H.out.up HB7.out) (HQ.out.up HB7.out) HHM (Row.rd HRO.out (by rw [ints_length,KT.turnK,List.length_map,HHL.out,Nat.mul_one])) HHM (by rw [KT.turnK,List.length_map,HHL.out,HLQ.out]) hv40 HEL.out ho).mono ?_;rintro e w9 ⟨he2,hb9⟩;have he3:e=.returned (.tuple #[.int .i64 (q.getD 0),.bool q.isSome]):=he2;subst he3
        have HN9:=(show Hid (Below wr.heap.size wr w9) from below_on2 HN7.out hb9)
        clear he2 hb9))
    have HB9:=hiD (below_on2 HB.out HN9.out)
    have RT9:=(show Hid (Row _ _ _ _) from rowCells RT3.out HN9.out)
    have RR9:=(show Hid (Row _ _ _ _) from rowCells RR3.out HN9.out)
    clear HS HCP HRO HB7 HN7 HN9 HK0 RT3 RR3 HB
    cases q with
    | none=>
     have HQN:Hid (decQ t r ins (k+1)=acc):=HDS.out;go_wp2;go_roundg (4 - (k+1))
     case measure=>omega
     case rel=>exact ⟨k+1,by omega,by omega,by go_num,(by rw [HQN.out] <;> rfl),(by rw [HQN.out] <;> rfl),HB9.out,RT9.out,RR9.out⟩
    | some s=>
    cases acc with
    | none=>
     have HQN:Hid (decQ t r ins (k+1)=some s):=HDS.out;go_wp2;go_roundg (4 - (k+1))
     case measure=>omega
     case rel=>exact ⟨k+1,by omega,by omega,by go_num,(by rw [HQN.out] <;> rfl),(by rw [HQN.out] <;> rfl),HB9.out,RT9.out,RR9.out⟩
    | some a=>
    by_cases hsa:s < a
    ·have hd:decide (s < a)=true:=decide_eq_true hsa;have HQN:Hid (decQ t r ins (k+1)=some s):=HDS.out.trans (by unfold KT.least;dsimp only;rw [if_pos hsa]);go_wp2;go_roundg (4 - (k+1))
     case measure=>omega
     case rel=>exact ⟨k+1,by omega,by omega,by go_num,(by rw [HQN.out] <;> rfl),(by rw [HQN.out] <;> rfl),HB9.out,RT9.out,RR9.out⟩
    ·have hd:decide (s < a)=false:=decide_eq_false hsa;have HQN:Hid (decQ t r ins (k+1)=some a):=HDS.out.trans (by unfold KT.least;dsimp only;rw [if_neg hsa]);go_wp2;go_roundg (4 - (k+1))
     case measure=>omega
     case rel=>exact ⟨k+1,by omega,by omega,by go_num,(by rw [HQN.out] <;> rfl),(by rw [HQN.out] <;> rfl),HB9.out,RT9.out,RR9.out⟩
   ·have hltz:¬ (k:Int) < 4:=by omega
    obtain rfl:k=4:=by omega
    go_wp2;go_ret2;rw [HD.out ()];exact ⟨rfl,HB.out⟩
 ·skip
  subst hNv;go_wp2;clear k0 k1 k2 k3 k4 kl s1 s3 s2
  go_loopg [6,7,9,10,11,27] 8 (fun gg s6 s7 _ _ _ s27 wr=>∃ k:Nat,k≤8∧8 - k≤gg∧s27=.int .i64 (k:Int)∧s6=.int .i64 ((decQ t r ins k).getD 0)∧s7=.bool (decQ t r ins k).isSome∧Aside (Below w.heap.size w wr∧Row wr w.heap.size 60 [.int .i64 t.states,.int .i64 t.sym,.slice HA hn hc,.slice VA vn vc,.slice RA rn rc]∧Row wr (w.heap.size+1) 179 [.slice qa hn qc,.int .i64 r.out]))
  case atStart=>exact ⟨0,by omega,by omega,rfl,rfl,rfl,HW9.out,RT1.out,RR1.out⟩
  case round=>
   obtain ⟨k,hk,hgg,rfl,rfl,rfl,hv⟩:=hrel;have HB:=hiD hv.out.1;have RT3:=hiD hv.out.2.1;have RR3:=hiD hv.out.2.2;clear hv HW9 RT1 RR1;by_cases hlt:k < 8
   ·have hltz:(k:Int) < 8:=by omega
    obtain ⟨hk8,hmp⟩:=HTO.out k hlt;have HMP:=hiD hmp;have HDS:Hid (decQ t r ins (k+1)=match KT.plainK t r (KT.turnK t k ins) with | some s=>KT.least (decQ t r ins k) s | none=>decQ t r ins k):=decQ_succ t r ins k;have HCP:=hiD (fun g W=>plain_any t ⟨HA,hn,hc,VA,vn,vc,RA,rn,rc,vs,rs⟩ r (KT.turnK t k ins) qa (some ⟨g,0,none⟩) hn qc hn hn W);dsimp only at HCP;clear hmp;revert HDS HCP;generalize KT.plainK t r (KT.turnK t k ins)=q;generalize decQ t r ins k=acc;intro HDS HCP
    have HS:∀ w',Below wr.heap.size wr w'→w'.cell? ⟨w.heap.size,0,none⟩=some (.int .i64 t.states)∧w'.cell? ⟨w.heap.size,1,none⟩=some (.int .i64 t.sym)∧w'.cell? ⟨w.heap.size,2,none⟩=some (.slice HA hn hc)∧w'.cell? ⟨w.heap.size,3,none⟩=some (.slice VA vn vc)∧w'.cell? ⟨w.heap.size,4,none⟩=some (.slice RA rn rc)∧w'.cell? ⟨w.heap.size+1,0,none⟩=some (.slice qa hn qc)∧w'.cell? ⟨w.heap.size+1,1,none⟩=some (.int .i64 r.out):=fun w' hk=>
     ⟨(rowCells RT3.out hk).cell 0,(rowCells RT3.out hk).cell 1,(rowCells RT3.out hk).cell 2,(rowCells RT3.out hk).cell 3,(rowCells RT3.out hk).cell 4,(rowCells RR3.out hk).cell 0,(rowCells RR3.out hk).cell 1⟩
    have HK0:Hid (Below wr.heap.size wr wr.drew):=(Below.refl _ _).drew;go_upto_region 12 with fail
    go_region_held3 (fun w'=>w'.cell? ⟨w.heap.size,0,none⟩=some (.int .i64 t.states)∧w'.cell? ⟨w.heap.size,1,none⟩=some (.int .i64 t.sym)∧w'.cell? ⟨w.heap.size,2,none⟩=some (.slice HA hn hc)∧w'.cell? ⟨w.heap.size,3,none⟩=some (.slice VA vn vc)∧w'.cell? ⟨w.heap.size,4,none⟩=some (.slice RA rn rc)∧w'.cell? ⟨w.heap.size+1,0,none⟩=some (.slice qa hn qc)∧w'.cell? ⟨w.heap.size+1,1,none⟩=some (.int .i64 r.out)) (first | exact HS _ HN9.out | exact HS _ HN7.out | exact HS _ HK0.out) (first
     | (go_at_call 153
        refine (turned_any t ⟨HA,hn,hc,VA,vn,vc,RA,rn,rc,vs,rs⟩ k ins IA hn ic _ (by exact H.out.up HB.out.drew) (by exact HM.out.up HB.out.drew) hk8 HHO.out HMP.out (by exact HI.out.up HB.out.drew) HHL.out).mono ?_;rintro e w7 ⟨g,rfl,hrow,hb7⟩
        have HN7:=(show Hid (Below wr.heap.size wr w7) from below_on2 HK0.out hb7)
        have HB7:=(show Hid (Below w.heap.size w w7) from below_on2 HB.out HN7.out)
        have HRO:=(show Hid (Row w7 g 3 (ints (KT.turnK t k ins))) from hrow)
        clear hrow hb7)
     | (go_at_call 152
        refine (HCP.out g w7 (H.out.up HB7.out) (HQ.out.up HB7.out) HHM (Row.rd HRO.out (by rw [ints_length,KT.turnK,List.length_map,HHL.out,Nat.mul_one])) HHM (by rw [KT.turnK,List.length_map,HHL.out,HLQ.out]) hv40 HEL.out ho).mono ?_;rintro e w9 ⟨he2,hb9⟩;have he3:e=.returned (.tuple #[.int .i64 (q.getD 0),.bool q.isSome]):=he2;subst he3
        have HN9:=(show Hid (Below wr.heap.size wr w9) from below_on2 HN7.out hb9)
        clear he2 hb9))
    have HB9:=hiD (below_on2 HB.out HN9.out)
    have RT9:=(show Hid (Row _ _ _ _) from rowCells RT3.out HN9.out)
    have RR9:=(show Hid (Row _ _ _ _) from rowCells RR3.out HN9.out)
    clear HS HCP HRO HB7 HN7 HN9 HK0 RT3 RR3 HB
    cases q with
    | none=>
     have HQN:Hid (decQ t r ins (k+1)=acc):=HDS.out;go_wp2;go_roundg (8 - (k+1))
     case measure=>omega
     case rel=>exact ⟨k+1,by omega,by omega,by go_num,(by rw [HQN.out] <;> rfl),(by rw [HQN.out] <;> rfl),HB9.out,RT9.out,RR9.out⟩
    | some s=>
    cases acc with
    | none=>
     have HQN:Hid (decQ t r ins (k+1)=some s):=HDS.out;go_wp2;go_roundg (8 - (k+1))
     case measure=>omega
     case rel=>exact ⟨k+1,by omega,by omega,by go_num,(by rw [HQN.out] <;> rfl),(by rw [HQN.out] <;> rfl),HB9.out,RT9.out,RR9.out⟩
    | some a=>
    by_cases hsa:s < a
    ·have hd:decide (s < a)=true:=decide_eq_true hsa;have HQN:Hid (decQ t r ins (k+1)=some s):=HDS.out.trans (by unfold KT.least;dsimp only;rw [if_pos hsa]);go_wp2;go_roundg (8 - (k+1))
     case measure=>omega
     case rel=>exact ⟨k+1,by omega,by omega,by go_num,(by rw [HQN.out] <;> rfl),(by rw [HQN.out] <;> rfl),HB9.out,RT9.out,RR9.out⟩
    ·have hd:decide (s < a)=false:=decide_eq_false hsa;have HQN:Hid (decQ t r ins (k+1)=some a):=HDS.out.trans (by unfold KT.least;dsimp only;rw [if_neg hsa]);go_wp2;go_roundg (8 - (k+1))
     case measure=>omega
     case rel=>exact ⟨k+1,by omega,by omega,by go_num,(by rw [HQN.out] <;> rfl),(by rw [HQN.out] <;> rfl),HB9.out,RT9.out,RR9.out⟩
   ·have hltz:¬ (k:Int) < 8:=by omega
    obtain rfl:k=8:=by omega
    go_wp2;go_ret2;rw [HD.out ()];exact ⟨rfl,HB.out⟩
 ·skip
  subst hNv;go_wp2;clear k0 k1 k2 k3 k4 kl s1 s3 s2
  go_loopg [6,7,9,10,11,27] 1 (fun gg s6 s7 _ _ _ s27 wr=>∃ k:Nat,k≤1∧1 - k≤gg∧s27=.int .i64 (k:Int)∧s6=.int .i64 ((decQ t r ins k).getD 0)∧s7=.bool (decQ t r ins k).isSome∧Aside (Below w.heap.size w wr∧Row wr w.heap.size 60 [.int .i64 t.states,.int .i64 t.sym,.slice HA hn hc,.slice VA vn vc,.slice RA rn rc]∧Row wr (w.heap.size+1) 179 [.slice qa hn qc,.int .i64 r.out]))
  case atStart=>exact ⟨0,by omega,by omega,rfl,rfl,rfl,HW9.out,RT1.out,RR1.out⟩
  case round=>
   obtain ⟨k,hk,hgg,rfl,rfl,rfl,hv⟩:=hrel;have HB:=hiD hv.out.1;have RT3:=hiD hv.out.2.1;have RR3:=hiD hv.out.2.2;clear hv HW9 RT1 RR1;by_cases hlt:k < 1
   ·have hltz:(k:Int) < 1:=by omega
    obtain ⟨hk8,hmp⟩:=HTO.out k hlt;have HMP:=hiD hmp;have HDS:Hid (decQ t r ins (k+1)=match KT.plainK t r (KT.turnK t k ins) with | some s=>KT.least (decQ t r ins k) s | none=>decQ t r ins k):=decQ_succ t r ins k;have HCP:=hiD (fun g W=>plain_any t ⟨HA,hn,hc,VA,vn,vc,RA,rn,rc,vs,rs⟩ r (KT.turnK t k ins) qa (some ⟨g,0,none⟩) hn qc hn hn W);dsimp only at HCP;clear hmp;revert HDS HCP;generalize KT.plainK t r (KT.turnK t k ins)=q;generalize decQ t r ins k=acc;intro HDS HCP
    have HS:∀ w',Below wr.heap.size wr w'→w'.cell? ⟨w.heap.size,0,none⟩=some (.int .i64 t.states)∧w'.cell? ⟨w.heap.size,1,none⟩=some (.int .i64 t.sym)∧w'.cell? ⟨w.heap.size,2,none⟩=some (.slice HA hn hc)∧w'.cell? ⟨w.heap.size,3,none⟩=some (.slice VA vn vc)∧w'.cell? ⟨w.heap.size,4,none⟩=some (.slice RA rn rc)∧w'.cell? ⟨w.heap.size+1,0,none⟩=some (.slice qa hn qc)∧w'.cell? ⟨w.heap.size+1,1,none⟩=some (.int .i64 r.out):=fun w' hk=>
     ⟨(rowCells RT3.out hk).cell 0,(rowCells RT3.out hk).cell 1,(rowCells RT3.out hk).cell 2,(rowCells RT3.out hk).cell 3,(rowCells RT3.out hk).cell 4,(rowCells RR3.out hk).cell 0,(rowCells RR3.out hk).cell 1⟩
    have HK0:Hid (Below wr.heap.size wr wr.drew):=(Below.refl _ _).drew;go_upto_region 12 with fail
    go_region_held3 (fun w'=>w'.cell? ⟨w.heap.size,0,none⟩=some (.int .i64 t.states)∧w'.cell? ⟨w.heap.size,1,none⟩=some (.int .i64 t.sym)∧w'.cell? ⟨w.heap.size,2,none⟩=some (.slice HA hn hc)∧w'.cell? ⟨w.heap.size,3,none⟩=some (.slice VA vn vc)∧w'.cell? ⟨w.heap.size,4,none⟩=some (.slice RA rn rc)∧w'.cell? ⟨w.heap.size+1,0,none⟩=some (.slice qa hn qc)∧w'.cell? ⟨w.heap.size+1,1,none⟩=some (.int .i64 r.out)) (first | exact HS _ HN9.out | exact HS _ HN7.out | exact HS _ HK0.out) (first
     | (go_at_call 153
        refine (turned_any t ⟨HA,hn,hc,VA,vn,vc,RA,rn,rc,vs,rs⟩ k ins IA hn ic _ (by exact H.out.up HB.out.drew) (by exact HM.out.up HB.out.drew) hk8 HHO.out HMP.out (by exact HI.out.up HB.out.drew) HHL.out).mono ?_;rintro e w7 ⟨g,rfl,hrow,hb7⟩
        have HN7:=(show Hid (Below wr.heap.size wr w7) from below_on2 HK0.out hb7)
        have HB7:=(show Hid (Below w.heap.size w w7) from below_on2 HB.out HN7.out)
        have HRO:=(show Hid (Row w7 g 3 (ints (KT.turnK t k ins))) from hrow)
        clear hrow hb7)
     | (go_at_call 152
        refine (HCP.out g w7 (H.out.up HB7.out) (HQ.out.up HB7.out) HHM (Row.rd HRO.out (by rw [ints_length,KT.turnK,List.length_map,HHL.out,Nat.mul_one])) HHM (by rw [KT.turnK,List.length_map,HHL.out,HLQ.out]) hv40 HEL.out ho).mono ?_;rintro e w9 ⟨he2,hb9⟩;have he3:e=.returned (.tuple #[.int .i64 (q.getD 0),.bool q.isSome]):=he2;subst he3
        have HN9:=(show Hid (Below wr.heap.size wr w9) from below_on2 HN7.out hb9)
        clear he2 hb9))
    have HB9:=hiD (below_on2 HB.out HN9.out)
    have RT9:=(show Hid (Row _ _ _ _) from rowCells RT3.out HN9.out)
    have RR9:=(show Hid (Row _ _ _ _) from rowCells RR3.out HN9.out)
    clear HS HCP HRO HB7 HN7 HN9 HK0 RT3 RR3 HB
    cases q with
    | none=>
     have HQN:Hid (decQ t r ins (k+1)=acc):=HDS.out;go_wp2;go_roundg (1 - (k+1))
     case measure=>omega
     case rel=>exact ⟨k+1,by omega,by omega,by go_num,(by rw [HQN.out] <;> rfl),(by rw [HQN.out] <;> rfl),HB9.out,RT9.out,RR9.out⟩
    | some s=>
    cases acc with
    | none=>
     have HQN:Hid (decQ t r ins (k+1)=some s):=HDS.out;go_wp2;go_roundg (1 - (k+1))
     case measure=>omega
     case rel=>exact ⟨k+1,by omega,by omega,by go_num,(by rw [HQN.out] <;> rfl),(by rw [HQN.out] <;> rfl),HB9.out,RT9.out,RR9.out⟩
    | some a=>
    by_cases hsa:s < a
    ·have hd:decide (s < a)=true:=decide_eq_true hsa;have HQN:Hid (decQ t r ins (k+1)=some s):=HDS.out.trans (by unfold KT.least;dsimp only;rw [if_pos hsa]);go_wp2;go_roundg (1 - (k+1))
     case measure=>omega
     case rel=>exact ⟨k+1,by omega,by omega,by go_num,(by rw [HQN.out] <;> rfl),(by rw [HQN.out] <;> rfl),HB9.out,RT9.out,RR9.out⟩
    ·have hd:decide (s < a)=false:=decide_eq_false hsa;have HQN:Hid (decQ t r ins (k+1)=some a):=HDS.out.trans (by unfold KT.least;dsimp only;rw [if_neg hsa]);go_wp2;go_roundg (1 - (k+1))
     case measure=>omega
     case rel=>exact ⟨k+1,by omega,by omega,by go_num,(by rw [HQN.out] <;> rfl),(by rw [HQN.out] <;> rfl),HB9.out,RT9.out,RR9.out⟩
   ·have hltz:¬ (k:Int) < 1:=by omega
    obtain rfl:k=1:=by omega
    go_wp2;go_ret2;rw [HD.out ()];exact ⟨rfl,HB.out⟩
end Go.Proofs.YtbijfnbelkbofaaGreatDoor
