/-
  Lemmas for the law TopCircuits.
-/
import Derived.Test.YtbijfnbelkbofaaGreatDoorJZ1
import Derived.Test.YtbijfnbelkbofaaGreatDoorJZ16
import Derived.Test.YtbijfnbelkbofaaGreatDoorJZ20
import Derived.Test.YtbijfnbelkbofaaGreatDoorJZ17
import Derived.BigQuiet
set_option linter.unusedSimpArgs false
set_option linter.unusedVariables false
namespace Go.Proofs.YtbijfnbelkbofaaGreatDoor
open Go.RowKit
def SymsPost (l:List Pt) (w:World) (e:Ending) (w':World):Prop:=
 ∃ (SA:Option Addr) (sn sc:Nat),e=.returned (.slice SA sn sc)∧Rd w' w'.heap.size 1 SA sn (ints ((KT.symsL l).map fun (k:Nat)=>(k:Int)))∧sn=(KT.symsL l).length∧Below w.heap.size w w'
theorem int_infoK:(Tryz.prog.info? 3).map (fun i=>(i.zero,i.size,i.bytes))=some (some (.int .i64 0),1,8):=by kernel_rfl
theorem hood_pts {l:List Pt} (h:hoodOk l=true):∀ p ∈ l,ptOk p=true:=fun p hp=>by
 unfold hoodOk hoodPts at h;simp only [Bool.and_eq_true,decide_eq_true_eq] at h;obtain ⟨k,hk,rfl⟩:=List.getElem_of_mem hp;have:=(h.2 k hk).1
 rwa [List.getD_eq_getElem?_getD,List.getElem?_eq_getElem hk] at this
set_option maxHeartbeats 1000000 in
theorem symsPred_any (l:List Pt) (k:Nat) (hk:k < 8) (p:Pt) (lb kb:Nat) (A:Option Addr) (n c:Nat) (w:World) (hm:MatAt w) (hp:ptOk p=true) (hr:Rd w w.heap.size 2 A n (hoodCells l)) (hbig:n≤9223372036854775807)
 (c0:w.cell? ⟨lb,0,none⟩=some (.slice A n c)) (c1:w.cell? ⟨kb,0,none⟩=some (.int .i64 (k:Int))):
 Calls Tryz.prog 174 #[.agg #[.int .i64 p.x,.int .i64 p.y],.pointer (some ⟨lb,0,none⟩),.pointer (some ⟨kb,0,none⟩)] w fun e w'=>e=.returned (.bool (!KT.hasPt l (KT.applyS k p)))∧Below w.heap.size w w':=by
 have HR:=hiD hr;have hl0:lb < w.heap.size:=World.block_lt_of_cell? w ⟨lb,0,none⟩ c0;have hk0:kb < w.heap.size:=World.block_lt_of_cell? w ⟨kb,0,none⟩ c1;have HM:=hiD hm;clear hr hm;go_enter Tryz.func174,Tryz.ntmps174;go_upto_region 1 with fail
 have HB1:Hid (Below w.heap.size w (World.alloc w (.cells #[.int .i64 p.x,.int .i64 p.y] 114))):=(show Below _ _ _ by go_grown)
 have RP0:Hid (Row (World.alloc w (.cells #[.int .i64 p.x,.int .i64 p.y] 114)) w.heap.size 114 [.int .i64 p.x,.int .i64 p.y]):=Row.new w _ [.int .i64 p.x,.int .i64 p.y];revert HB1 RP0;generalize World.alloc w (.cells #[.int .i64 p.x,.int .i64 p.y] 114)=w1;intro HB1 RP0;have c0:=(HB1.out.cell (p:=⟨lb,0,none⟩) hl0).trans c0;have c1:=(HB1.out.cell (p:=⟨kb,0,none⟩) hk0).trans c1;have hl1:lb < w1.heap.size:=Nat.lt_of_lt_of_le hl0 HB1.out.size;have hk1:kb < w1.heap.size:=Nat.lt_of_lt_of_le hk0 HB1.out.size;have HM1:=hiD (HM.out.up HB1.out);obtain ⟨k0,k1,kl⟩:=RP0.out.cells2;refine wp_region_L (fun w'=>w'.cell? ⟨lb,0,none⟩=some (.slice A n c)∧w'.cell? ⟨kb,0,none⟩=some (.int .i64 (k:Int))∧w'.cell? ⟨w.heap.size,0,none⟩=some (.int .i64 p.x)∧w'.cell? ⟨w.heap.size,1,none⟩=some (.int .i64 p.y)) [4] (by kernel_rfl) (by exact ⟨c0,c1,k0,k1⟩) (fun hHeld=>?_);refine lTakeW 0 ?va1 [[4]] rfl (by rfl) ?ya1 hHeld ?ra1
 case ya1=>
  intro w' hSw;obtain ⟨q0,q1,q2,q3⟩:=hSw;go_simp
  try (with_reducible rfl)
 go_simp;refine lTakeW 1 ?va2 [[4,3]] rfl (by rfl) ?ya2 hHeld ?ra2
 case ya2=>
  intro w' hSw;obtain ⟨q0,q1,q2,q3⟩:=hSw;go_simp
  try (with_reducible rfl)
 go_simp;refine lTakeW 2 ?va3 [[4,3]] rfl (by rfl) ?ya3 hHeld ?ra3
 case ya3=>
  intro w' hSw;obtain ⟨q0,q1,q2,q3⟩:=hSw;go_simp
  try (with_reducible rfl)
 go_simp;refine restL_one (i:=3) (by kernel_rfl) rfl (fun K hK=>?_);go_simp
 go_at_call 176
 refine (apply_any k hk p _ (by exact HM1.out) hp).mono ?_;rintro e w3 ⟨rfl,hb3⟩;have hb3:Below w1.heap.size w1 w3:=(Below.refl w1.heap.size w1).drew.trans hb3;have HB3:Hid (Below w.heap.size w w3):=HB1.out.trans (hb3.mono HB1.out.size);have S3:Hid (w3.cell? ⟨lb,0,none⟩=some (.slice A n c)∧w3.cell? ⟨kb,0,none⟩=some (.int .i64 (k:Int))∧w3.cell? ⟨w.heap.size,0,none⟩=some (.int .i64 p.x)∧w3.cell? ⟨w.heap.size,1,none⟩=some (.int .i64 p.y)):=And.intro ((hb3.cell (p:=⟨lb,0,none⟩) hl1).trans c0) (And.intro ((hb3.cell (p:=⟨kb,0,none⟩) hk1).trans c1) (And.intro ((hb3.cell (p:=⟨w.heap.size,0,none⟩) kl).trans k0) ((hb3.cell (p:=⟨w.heap.size,1,none⟩) kl).trans k1)));clear hb3;refine hK.out _ _ (fun _=>?keep) (fun hHeld=>?_)
 case keep=>exact S3.out
 have hHeld:=hHeld rfl;clear hK K
 try go_simp
 refine restL_one (i:=4) (by kernel_rfl) rfl (fun K hK=>?_);go_simp
 go_at_call 175
 refine (contains_pts A n c l (KT.applyS k p) _ (by exact HR.out.up HB3.out) hbig).mono ?_;rintro e w4 ⟨rfl,hb4⟩;have HB4:Hid (Below w.heap.size w w4):=HB3.out.trans (hb4.mono HB3.out.size);clear hb4;refine hK.out _ _ (fun h=>absurd h (by decide)) (fun _=>?_);clear hK K
 try go_simp
 refine lP 5 ?_;go_simp;refine lP 6 ?_;go_simp;refine restL_done (by kernel_rfl) ?_ _;go_wp2;go_ret;exact ⟨rfl,HB4.out⟩
set_option maxRecDepth 100000 in
set_option maxHeartbeats 1000000 in
theorem syms_any (l:List Pt) (A:Option Addr) (n c:Nat) (w:World) (hr:Rd w w.heap.size 2 A n (hoodCells l)) (hm:n≤maxLen) (hmat:MatAt w):
 Calls Tryz.prog 147 #[.slice A n c] w (SymsPost l w):=by
 have HR:=hiD hr;have HM:=hiD hmat;have hmf:∀ (fn:Fn) (first cap:Array Value) (w:World),(Instr.makeFunc fn first cap).run Tryz.prog w=.ok (.func fn first cap) w:=fun _ _ _ _=>rfl
 have hbig:n≤9223372036854775807:=by unfold maxLen at hm;omega
 clear hr hmat;go_enter Tryz.func147,Tryz.ntmps147;go_upto_region 1 with fail
 have HB1:Hid (Below w.heap.size w (World.alloc w (.cells #[.slice A n c] 24))):=(show Below _ _ _ by go_grown)
 have RL0:Hid (Row (World.alloc w (.cells #[.slice A n c] 24)) w.heap.size 24 [.slice A n c]):=Row.new w _ [.slice A n c];revert HB1 RL0;generalize World.alloc w (.cells #[.slice A n c] 24)=w1;intro HB1 RL0;obtain ⟨k0,kl⟩:=RL0.out.cells1;have HC:=hoodRight_any l A n c w1 (HR.out.up HB1.out) hm
 cases hh:hoodOk l with
 | false=>
  rw [hh] at HC;have HS:Hid (∀ _:Unit,KT.symsL l=[]):=fun _=>by unfold KT.symsL;rw [hh];rfl
  clear hh;go_wp2_with fail;refine HC.mono ?_;clear HC;rintro e w2 ⟨rfl,hb2⟩;go_wp2;go_ret;refine ⟨none,0,0,rfl,?_,?_,HB1.out.trans (hb2.mono HB1.out.size)⟩
  ·rw [HS.out ()];exact Rd.empty _
  ·rw [HS.out ()];rfl
 | true=>
  rw [hh] at HC;have HS:Hid (∀ _:Unit,KT.symsL l=(List.range 8).filter (KT.mapsTo l)):=fun _=>by unfold KT.symsL;rw [hh];rfl
  have HPT:=hiD (hood_pts hh);clear hh;go_wp2_with fail;refine HC.mono ?_;clear HC;rintro e w2 ⟨rfl,hb2⟩;have HB2:Hid (Below w.heap.size w w2):=HB1.out.trans (hb2.mono HB1.out.size);have RL2:=hiD (rowCells RL0.out hb2);clear hb2 k0 kl HB1 RL0;go_wp2_with fail
  go_loopg [3,4,8] 8 (fun gg s3 _ s8 wr=>∃ (i cc:Nat) (CA:Option Addr),i≤8∧8 - i≤gg∧s8=.int .i64 (i:Int)∧s3=.slice CA ((List.range i).filter (KT.mapsTo l)).length cc∧Aside (wr.ownsRow (w.heap.size+1) 3 1 (.slice CA ((List.range i).filter (KT.mapsTo l)).length cc) ((List.range i).filter (KT.mapsTo l)).length (ints (((List.range i).filter (KT.mapsTo l)).map fun (k:Nat)=>(k:Int)))∧Below w.heap.size w wr∧Row wr w.heap.size 24 [.slice A n c]))
  case atStart=>exact ⟨0,0,none,by omega,by omega,rfl,rfl,World.ownsRow_nil _ _ _ _,HB2.out,RL2.out⟩
  case round=>
   obtain ⟨i,cc,CA,hi,hgg,rfl,rfl,hv⟩:=hrel;have HO:=hiD hv.out.1;have HB:=hiD hv.out.2.1;have RL:=hiD hv.out.2.2;clear hv HB2 RL2;have hfl:((List.range i).filter (KT.mapsTo l)).length≤8:=Nat.le_trans (List.length_filter_le _ _) (by simp;omega)
   have HF1:Hid (∀ _:Unit,(List.range (i+1)).filter (KT.mapsTo l)=(List.range i).filter (KT.mapsTo l) ++ (if KT.mapsTo l i=true then [i] else [])):=fun _=>by
    rw [List.range_succ,List.filter_append,List.filter_cons];rfl
   by_cases hlt:i < 8
   ·have hltz:(i:Int) < 8:=by omega
    revert HO HF1 hfl;generalize (List.range i).filter (KT.mapsTo l)=F;intro HO hfl HF1;have HB3:Hid (Below w.heap.size w (World.alloc wr (.cells #[.int .i64 (i:Int)] 3))):=HB.out.alloc HB.out.size _;have RK:Hid (Row (World.alloc wr (.cells #[.int .i64 (i:Int)] 3)) wr.heap.size 3 [.int .i64 (i:Int)]):=Row.new wr _ [.int .i64 (i:Int)];have RL3:Hid (Row (World.alloc wr (.cells #[.int .i64 (i:Int)] 3)) w.heap.size 24 [.slice A n c]):=RL.out.alloc _;have HO3:Hid ((World.alloc wr (.cells #[.int .i64 (i:Int)] 3)).ownsRow (w.heap.size+1) 3 1 (.slice CA F.length cc) F.length (ints (F.map fun (k:Nat)=>(k:Int)))):=HO.out.alloc _;go_upto_region 7 with fail;revert HB3 RK RL3 HO3;generalize World.alloc wr (.cells #[.int .i64 (i:Int)] 3)=w3;generalize wr.heap.size=kb;intro HB3 RK RL3 HO3;obtain ⟨k0,kl⟩:=RL3.out.cells1;obtain ⟨j0,jl⟩:=RK.out.cells1
    have HMA:Hid (l.all (fun p=>KT.hasPt l (KT.applyS i p))=!(l.any fun p=>!KT.hasPt l (KT.applyS i p))):=by
     show _=_
     induction l with
     | nil=>rfl
     | cons a l ih=>simp [List.all_eq_not_any_not]
    have HCF:=containsFunc_pts A n c l 174 #[.pointer (some ⟨w.heap.size,0,none⟩),.pointer (some ⟨kb,0,none⟩)] (fun p=>!KT.hasPt l (KT.applyS i p)) w3 (enters Tryz.func174 (by kernel_rfl) rfl) (HR.out.up HB3.out) hbig
     (fun W x hx hbW=>(symsPred_any l i hlt x w.heap.size kb A n c W ((HM.out.up HB3.out).up hbW) (HPT.out x hx) ((HR.out.up HB3.out).up hbW) hbig ((hbW.cell (p:=⟨w.heap.size,0,none⟩) kl).trans k0) ((hbW.cell (p:=⟨kb,0,none⟩) jl).trans j0)).mono fun e w' h=>⟨h.1,hbW.trans (h.2.mono hbW.size)⟩)
    have HCF:=hiD HCF;have HM9:Hid (∀ _:Unit,KT.mapsTo l i=!(l.any fun p=>!KT.hasPt l (KT.applyS i p))):=fun _=>HMA.out
    revert HCF HM9;generalize (l.any fun p=>!KT.hasPt l (KT.applyS i p))=bb;intro HCF HM9;go_wp2_with fail;refine HCF.out.mono ?_;rintro e w4 ⟨rfl,hb4⟩;have HB4:Hid (Below w.heap.size w w4):=HB3.out.trans (hb4.mono HB3.out.size);have RL4:=hiD (rowCells RL3.out hb4);have RK4:=hiD (rowCells RK.out hb4);have HO4:Hid (w4.ownsRow (w.heap.size+1) 3 1 (.slice CA F.length cc) F.length (ints (F.map fun (k:Nat)=>(k:Int)))):=own_below HO3.out hb4 (Nat.le_refl _);clear hb4 k0 kl j0 jl RL3 RK HO3 HB3 HMA HCF HO RL HB
    cases bb with
    | true=>
     have HF2:Hid (∀ _:Unit,(List.range (i+1)).filter (KT.mapsTo l)=F):=fun _=>by rw [HF1.out (),HM9.out ()];simp
     go_wp2;go_roundg (8 - (i+1))
     case measure=>omega
     case rel=>exact ⟨i+1,cc,CA,by omega,by omega,by go_num,by rw [HF2.out ()],by rw [HF2.out ()];exact HO4.out,HB4.out,RL4.out⟩
    | false=>
     have HF2:Hid (∀ _:Unit,(List.range (i+1)).filter (KT.mapsTo l)=F ++ [i]):=fun _=>by rw [HF1.out (),HM9.out ()];simp
     obtain ⟨j0,jl⟩:=RK4.out.cells1;have hsz:=HB4.out.size;have hsz1:=RL4.out.lt
     go_wp2_with (at_builtin;refine wpList_app rfl (.tmp 15) (.tmp 17) 22 rfl (w.heap.size+1) 3 (.int .i64 0) 1 8 Tryz.underlying22 int_infoK rfl (by decide) (by decide) (.slice CA F.length cc) F.length (ints (F.map fun (k:Nat)=>(k:Int))) rfl ?own (w4.heap.size+1) (some ⟨w4.heap.size,0,none⟩) 1 1 [.int .i64 (i:Int)] rfl ?rd ?one ?hb ?hbase ?_)
     case own=>exact HO4.out.alloc _
     case rd=>exact Rd.lit w4 #[.int .i64 (i:Int)] 3 (sz:=1) (m:=1) rfl
     case one=>first | (intro u hu;simp at hu;subst hu;rfl) | rfl
     case hb=>omega
     case hbase=>first | (simp;omega) | omega
     intro v' w8 hown' hgrow' hat';obtain ⟨A8,c8,rfl,_⟩:=Rd.own hown'
     have HO8:Hid (w8.ownsRow (w.heap.size+1) 3 1 (.slice A8 (F.length+1) c8) (F.length+1) (ints ((F ++ [i]).map fun (k:Nat)=>(k:Int)))):=by
      show World.ownsRow _ _ _ _ _ _ _
      simpa [ints] using hown'
     have HB8:Hid (Below w.heap.size w w8):=(HB4.out.alloc hsz _).grown hgrow' (by simp;omega) (fun k e=>by have:=(HO4.out.lt k e).1;omega);have RL8:Hid (Row w8 w.heap.size 24 [.slice A n c]):=(RL4.out.alloc _).grown hgrow' (fun e=>by have:=(HO4.out.lt _ e.symm).1;omega);clear hown' hgrow' hat' j0 jl;go_wp2;go_roundg (8 - (i+1))
     case measure=>omega
     case rel=>exact ⟨i+1,c8,A8,by omega,by omega,by go_num,by rw [HF2.out ()];simp,by rw [HF2.out ()];simpa using HO8.out,HB8.out,RL8.out⟩
   ·have hltz:¬ (i:Int) < 8:=by omega
    have hi8:8=i:=by omega
    subst hi8;rw [← HS.out ()] at HO;rw [← HS.out ()];go_wp2;go_ret;exact ⟨CA,_,cc,rfl,Rd.of_own HO.out,rfl,HB.out⟩
end Go.Proofs.YtbijfnbelkbofaaGreatDoor
