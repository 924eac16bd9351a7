/-
  Lemmas for the law TopCircuits.
-/
import Derived.Test.YtbijfnbelkbofaaGreatDoorJZ7
import Derived.Test.YtbijfnbelkbofaaGreatDoorJZ38
import Derived.Deep.Light
import Derived.Test.YtbijfnbelkbofaaGreatDoorJZ2
import Derived.Test.YtbijfnbelkbofaaGreatDoorJZ1
import Derived.Test.YtbijfnbelkbofaaGreatDoorJZ8
import Derived.Test.YtbijfnbelkbofaaGreatDoorJZ15
set_option linter.unusedSimpArgs false
set_option linter.unusedVariables false
namespace Go.Proofs.YtbijfnbelkbofaaGreatDoor
open Go.RowKit
theorem right_at (c:Circ) (GA OA:Option Addr) (gn gc on oc:Nat) (w:World) (h:CAt w c GA OA gn on):
 Calls Tryz.prog 32 #[.agg #[.int .i64 c.inputs,.slice GA gn gc,.slice OA on oc]] w fun e w'=>e=.returned (.bool (rightC c))∧Below w.heap.size w w':=
 cright_any c.inputs GA OA gn gc on oc c.gates c.outs w h.gates h.outs h.g63 h.o63
set_option maxHeartbeats 400000 in
theorem words_bad (c:Circ) (GA OA IA:Option Addr) (gn gc on oc n ic:Nat) (w:World) (h:CAt w c GA OA gn on) (hn:n≤maxLen) (hbad:okC c n=false):
 Calls Tryz.prog 31 #[.agg #[.int .i64 c.inputs,.slice GA gn gc,.slice OA on oc],.slice IA n ic] w fun e w'=>e=.returned (.tuple #[.slice none 0 0,.int .i64 2])∧Below w.heap.size w w':=by
 unfold maxLen at hn;have H:=hiD h;clear h
 cases hr:rightC c
 ·clear hbad;go_enter Tryz.func31,Tryz.ntmps31;go_wp2_with fail;refine (right_at c GA OA gn gc on oc _ (H.out.up (by go_grown))).mono ?_;rw [hr];rintro e w1 ⟨rfl,hb⟩;have B1:Below w.heap.size w w1:=(show Below w.heap.size w _ by go_grown).trans (hb.mono (by simp));go_wp2;go_ret2;exact ⟨rfl,B1⟩
 ·have hne:((n:Int) != c.inputs)=true:=by simp [okC,hr] at hbad;simpa using hbad
  clear hbad;go_enter Tryz.func31,Tryz.ntmps31;go_wp2_with fail;refine (right_at c GA OA gn gc on oc _ (H.out.up (by go_grown))).mono ?_;rw [hr];rintro e w1 ⟨rfl,hb⟩;have B1:Below w.heap.size w w1:=(show Below w.heap.size w _ by go_grown).trans (hb.mono (by simp));have c0:w1.cell? ⟨w.heap.size,0,none⟩=some (.int .i64 c.inputs):=(hb.cell (p:=⟨w.heap.size,0,none⟩) (by simp)).trans (by go_cell);go_wp2;go_ret2;exact ⟨rfl,B1⟩
set_option maxHeartbeats 1000000 in
theorem words_ok (c:Circ) (GA OA IA:Option Addr) (gn gc on oc n ic:Nat) (ins:List (BitVec 64)) (w:World) (h:CAt w c GA OA gn on) (hI:Rd w w.heap.size 1 IA n (w64s ins)) (hok:okC c n=true):
 Calls Tryz.prog 31 #[.agg #[.int .i64 c.inputs,.slice GA gn gc,.slice OA on oc],.slice IA n ic] w fun e w'=>
  ∃ g,e=.returned (.tuple #[.slice (some ⟨g,0,none⟩) on on,.int .i64 0])∧Row w' g 79 (w64s (outsG evalW 0 c ins))∧w.heap.size≤g∧Below w.heap.size w w':=by
 have H:=hiD h;have HI:=hiD hI;simp only [okC,Bool.and_eq_true,decide_eq_true_eq] at hok;obtain ⟨hr,hn⟩:=hok;obtain ⟨⟨h0,h1,h2,h3⟩,hg,ho⟩:=rightC_parts hr;rw [h.gl] at h2 ho;rw [h.ol] at h3;obtain ⟨inp,gs,os⟩:=c;dsimp only at hn h0 h1 hg ho;subst hn;have HR:=hiD hr;have LO:Hid (os.length=on):=h.ol;have LI:Hid (ins.length=n):=by have:=hI.1;simp [w64s] at this;show _=_;omega
 have HGK:=hiD hg;have HOK:=hiD ho;have LG:Hid (gs.length=gn):=h.gl;clear h hI hr hg ho;have hmk:=fun W=>make_like (P:=Tryz.prog) Tryz.underlying78 u64_info rfl on (on:Int) rfl (by omega) (by omega) W
 go_enter Tryz.func31,Tryz.ntmps31;go_wp2_with fail;refine (right_at ⟨(n:Int),gs,os⟩ GA OA gn gc on oc _ (H.out.up (by go_grown))).mono ?_;rw [HR.out];rintro e w1 ⟨rfl,hb⟩;have B1:Below w.heap.size w w1:=(show Below w.heap.size w _ by go_grown).trans (hb.mono (by simp));have c0:w1.cell? ⟨w.heap.size,0,none⟩=some (.int .i64 n):=(hb.cell (p:=⟨w.heap.size,0,none⟩) (by simp)).trans (by go_cell);have c1:w1.cell? ⟨w.heap.size,1,none⟩=some (.slice GA gn gc):=(hb.cell (p:=⟨w.heap.size,1,none⟩) (by simp)).trans (by go_cell);have c2:w1.cell? ⟨w.heap.size,2,none⟩=some (.slice OA on oc):=(hb.cell (p:=⟨w.heap.size,2,none⟩) (by simp)).trans (by go_cell);have hz1:w.heap.size < w1.heap.size:=by have:=hb.size;simp at this;omega
 clear hb;go_wp2_with fail;refine (values_any n GA OA IA gn gc on oc ic gs ins _ (H.out.up B1).gates (HI.out.up B1) (by omega) h2 HGK.out).mono ?_;rintro e w2 ⟨g,rfl,hrow,hgle,hb⟩;have B2:Below w.heap.size w w2:=B1.trans (hb.mono B1.size);have d2:w2.cell? ⟨w.heap.size,2,none⟩=some (.slice OA on oc):=(hb.cell (p:=⟨w.heap.size,2,none⟩) (by show w.heap.size < _;omega)).trans c2;have hz2:w.heap.size < w2.heap.size:=by have:=hb.size;omega
 have HROW:=hiD hrow;have hgl:g < w2.heap.size:=hrow.lt;have HB2:=hiD B2;clear hb B1 c0 c1 c2 hz1 hrow B2;go_wp2
 go_loopg [30] on (fun gg s30 wr=>∃ kk:Nat,kk≤on∧on - kk≤gg∧s30=.int .i64 kk∧Aside (Below (w2.heap.size) w2 wr)∧Aside (Row wr w2.heap.size 79 (w64s ((os.take kk).map fun o=>(runG evalW 0 gs ins).getD o.toNat 0) ++ List.replicate (on - kk) (.int .u64 0))))
 case atStart=>exact ⟨0,Nat.zero_le _,by omega,rfl,(show Below _ _ _ by go_grown),Row.new _ _ _⟩
 case round=>
  obtain ⟨kk,hkk,hgg,rfl,BW,RW⟩:=hrel;have e2:wr.cell? ⟨w.heap.size,2,none⟩=some (.slice OA on oc):=(BW.out.cell (p:=⟨w.heap.size,2,none⟩) hz2).trans d2;have hsz:w2.heap.size < wr.heap.size:=RW.out.lt;by_cases hlt:kk < on
  ·have hltz:(kk:Int) < (on:Int):=by omega
   have B3:Below w.heap.size w wr:=HB2.out.trans (BW.out.mono (by omega));obtain ⟨ad,rfl,hb,hcell⟩:=((H.out.up B3).outs).int hlt;obtain ⟨ho1,ho2⟩:=outOk_at HOK.out (k:=kk) (by rw [LO.out];exact hlt);have HT:Aside _:=map_take_snoc (fun o=>(runG evalW 0 gs ins).getD o.toNat 0) os kk (by rw [LO.out];exact hlt);generalize os.getD kk 0=o at hcell ho1 ho2 HT
   obtain ⟨on',rfl⟩:∃ m:Nat,o=(m:Int):=⟨o.toNat,by omega⟩
   have hon:on' < n+gn:=by omega
   clear ho1 ho2 B3;have HL:Aside ((runG evalW 0 gs ins).length=n+gn):=by show _=_;rw [runG_length,LI.out,LG.out]
   have hv:wr.cell? ⟨g,on',none⟩=some (w64 ((runG evalW 0 gs ins).getD on' 0)):=by
    rw [BW.out.cell (p:=⟨g,on',none⟩) hgl,HROW.out.cell on'];have:=w64s_at (runG evalW 0 gs ins) [] on' (by rw [HL.out];exact hon)
    simpa using this
   have hlt':((os.take kk).map fun o=>(runG evalW 0 gs ins).getD o.toNat 0).length=kk:=by rw [List.length_map,List.length_take,LO.out];omega
   have hs:=w64s_set ((os.take kk).map fun o=>(runG evalW 0 gs ins).getD o.toNat 0) ((runG evalW 0 gs ins).getD on' 0) kk (on - kk) (.int .u64 0) hlt' (by omega);have vc:wr.cell? ⟨w2.heap.size,kk,none⟩=some (.int .u64 0):=(RW.out.cell kk).trans (w64s_next _ _ _ _ hlt' (by omega));have vf:wr.frozen? ⟨w2.heap.size,kk,none⟩=false:=RW.out.frozen kk;generalize hx:(runG evalW 0 gs ins).getD on' 0=x at hv hs;have HX:Aside ((runG evalW 0 gs ins).getD on' 0=x):=hx;have HS:Aside _:=hs;clear hx hs hlt';unfold w64 at hv;go_wp2;go_roundg (on - (kk+1))
   case measure=>omega
   case rel=>
    have BB:=BW.out;refine ⟨kk+1,by omega,by omega,by go_num,(show Below _ _ _ by go_grown),?_⟩;show Row _ _ _ _;rw [HT.out,show on - (kk+1)=on - kk - 1 from by omega];simp only [Int.toNat_natCast];rw [HX.out,← HS.out];exact RW.out.set _ _
  ·have hltz:¬ (kk:Int) < (on:Int):=by omega
   obtain rfl:kk=on:=by omega
   go_wp2;go_ret2;refine ⟨w2.heap.size,rfl,?_,HB2.out.size,HB2.out.trans (BW.out.mono HB2.out.size)⟩;have:=RW.out;rw [Nat.sub_self,List.replicate_zero,List.append_nil,← LO.out,List.take_length] at this;exact this
end Go.Proofs.YtbijfnbelkbofaaGreatDoor
namespace Go.Proofs.YtbijfnbelkbofaaGreatDoor
open Go.RowKit
theorem bool_info':(Tryz.prog.info? 4).map (fun i=>(i.zero,i.size,i.bytes))=some (some (.bool false),1,1):=by kernel_rfl
def bw (b:Bool):BitVec 64:=if b then 1 else 0
def lo (x:BitVec 64):Bool:=x.getLsbD 0
theorem w64_lo (x:BitVec 64):(bits .and .u64 (x.toNat:Int) 1 == 1)=lo x:=by
 have h:(1:Int)=(((1:BitVec 64).toNat:Nat):Int):=by decide
 rw [h,u64_and_nat _ _ x.isLt (1:BitVec 64).isLt];unfold lo;rw [← BitVec.testBit_toNat];simp only [Nat.testBit,Nat.shiftRight_zero];have:x.toNat &&& (1:BitVec 64).toNat=x.toNat % 2:=Nat.and_one_is_mod _;rw [this,Nat.one_and_eq_mod_two];rcases Nat.mod_two_eq_zero_or_one x.toNat with e | e <;> rw [e] <;> rfl
theorem cbools_set (bs:List Bool) (b:Bool) (m k:Nat) (z:Value) (hl:bs.length=m) (hk:0 < k):(bools bs ++ List.replicate k z).set m (.bool b)=bools (bs ++ [b]) ++ List.replicate (k - 1) z:=by
 subst hl
 obtain ⟨j,rfl⟩:∃ j,k=j+1:=⟨k - 1,by omega⟩
 rw [List.set_append_right _ _ (by simp)]
 simp [bools,List.replicate_succ]
theorem bools_next (bs:List Bool) (m k:Nat) (z:Value) (hl:bs.length=m) (hk:0 < k):(bools bs ++ List.replicate k z)[m]?=some z:=by
 subst hl;rw [List.getElem?_append_right (by simp),List.getElem?_replicate]
 simp [hk]
theorem map_take_b {β:Type} (f:Bool→β) (bs:List Bool) (k:Nat) (h:k < bs.length):(bs.take (k+1)).map f=(bs.take k).map f ++ [f (bs.getD k false)]:=by
 rw [List.take_succ_eq_append_getElem h,List.map_append,List.getD_eq_getElem?_getD,List.getElem?_eq_getElem h];rfl
theorem map_take_w {β:Type} (f:BitVec 64→β) (bs:List (BitVec 64)) (k:Nat) (h:k < bs.length):(bs.take (k+1)).map f=(bs.take k).map f ++ [f (bs.getD k 0)]:=by
 rw [List.take_succ_eq_append_getElem h,List.map_append,List.getD_eq_getElem?_getD,List.getElem?_eq_getElem h];rfl
def EvalPost (c:Circ) (n on:Nat) (ins:List Bool) (w:World) (e:Ending) (w':World):Prop:=
 (okC c n=false∧e=.returned (.tuple #[.slice none 0 0,.int .i64 2])∧Below w.heap.size w w') ∨
 (okC c n=true∧∃ g,e=.returned (.tuple #[.slice (some ⟨g,0,none⟩) on on,.int .i64 0])∧Row w' g 4 (bools ((outsG evalW 0 c (ins.map bw)).map lo))∧w.heap.size≤g∧Below w.heap.size w w')
set_option maxHeartbeats 1000000 in
theorem eval_head (c:Circ) (GA OA IA:Option Addr) (gn gc on oc n ic:Nat) (ins:List Bool) (w:World) (h:CAt w c GA OA gn on) (hI:Rd w w.heap.size 1 IA n (bools ins)) (hn:n≤1100):
 Calls Tryz.prog 10 #[.agg #[.int .i64 c.inputs,.slice GA gn gc,.slice OA on oc],.slice IA n ic] w (EvalPost c n on ins w):=by
 have H:=hiD h;have HI:=hiD hI;have LI:Hid (ins.length=n):=by have:=hI.1;simp at this;show _=_;omega
 have LO:Hid (c.outs.length=on):=h.ol;clear h hI;have hmk:=fun W=>make_like (P:=Tryz.prog) Tryz.underlying78 u64_info rfl n (n:Int) rfl (by omega) (by omega) W
 go_enter Tryz.func10,Tryz.ntmps10;go_wp2
 go_loopg [18] n (fun gg s18 wr=>∃ kk:Nat,kk≤n∧n - kk≤gg∧s18=.int .i64 kk∧Aside (Below (w.heap.size+1) (w.alloc (.cells #[.int .i64 c.inputs,.slice GA gn gc,.slice OA on oc] 36)) wr)∧Aside (Row wr (w.heap.size+1) 79 (w64s ((ins.take kk).map bw) ++ List.replicate (n - kk) (.int .u64 0))))
 case atStart=>exact ⟨0,Nat.zero_le _,by omega,rfl,(show Below _ _ _ by go_grown),(by have:=Row.new (w.alloc (.cells #[.int .i64 c.inputs,.slice GA gn gc,.slice OA on oc] 36)) 79 (List.replicate n (.int .u64 0));rw [World.size_alloc] at this;exact this)⟩
 case round=>
  clear hmk;obtain ⟨kk,hkk,hgg,rfl,BW,RW⟩:=hrel;have B0:Aside (Below w.heap.size w wr):=below_box (k:=1) BW.out;by_cases hlt:kk < n
  ·have hltz:(kk:Int) < (n:Int):=by omega
   obtain ⟨ad,rfl,hb,hcell⟩:=(HI.out.up B0.out).bool hlt;have HT:Aside _:=map_take_b bw ins kk (by rw [LI.out];exact hlt);have hlt':((ins.take kk).map bw).length=kk:=by rw [List.length_map,List.length_take,LI.out];omega
   have HS:Aside _:=w64s_set ((ins.take kk).map bw) (bw (ins.getD kk false)) kk (n - kk) (.int .u64 0) hlt' (by omega);have vc:wr.cell? ⟨w.heap.size+1,kk,none⟩=some (.int .u64 0):=(RW.out.cell kk).trans (w64s_next _ _ _ _ hlt' (by omega));have vf:wr.frozen? ⟨w.heap.size+1,kk,none⟩=false:=RW.out.frozen kk;clear hlt'
   cases hbv:ins.getD kk false
   ·rw [hbv] at hcell HT HS;go_wp2;go_roundg (n - (kk+1))
    case measure=>omega
    case rel=>
     refine ⟨kk+1,by omega,by omega,by go_num,BW.out,?_⟩;show Row _ _ _ _;rw [HT.out,show n - (kk+1)=n - kk - 1 from by omega,← HS.out]
     have he:(w64s ((ins.take kk).map bw) ++ List.replicate (n - kk) (Value.int .u64 0)).set kk (w64 (bw false))=w64s ((ins.take kk).map bw) ++ List.replicate (n - kk) (Value.int .u64 0):=by
      apply List.ext_getElem?
      intro j;rw [List.getElem?_set];split
      ·rename_i hj;subst hj
       have:=(RW.out.cell kk).symm.trans vc;rw [this,if_pos (List.getElem?_eq_some_iff.1 this).1];rfl
      ·rfl
     rw [he];exact RW.out
   ·rw [hbv] at hcell HT HS;go_wp2;go_roundg (n - (kk+1))
    case measure=>omega
    case rel=>
     have BB:=BW.out;refine ⟨kk+1,by omega,by omega,by go_num,(show Below _ _ _ by go_grown),?_⟩;show Row _ _ _ _;rw [HT.out,show n - (kk+1)=n - kk - 1 from by omega,← HS.out];exact RW.out.set _ _
  ·have hltz:¬ (kk:Int) < (n:Int):=by omega
   obtain rfl:kk=n:=by omega
   have RW':Aside (Row wr (w.heap.size+1) 79 (w64s (ins.map bw))):=by
    have:=RW.out;rw [Nat.sub_self,List.replicate_zero,List.append_nil,← LI.out,List.take_length] at this;exact this
   have c0:wr.cell? ⟨w.heap.size,0,none⟩=some (.int .i64 c.inputs):=(BW.out.cell (p:=⟨w.heap.size,0,none⟩) (by simp)).trans (by go_cell);have c1:wr.cell? ⟨w.heap.size,1,none⟩=some (.slice GA gn gc):=(BW.out.cell (p:=⟨w.heap.size,1,none⟩) (by simp)).trans (by go_cell);have c2:wr.cell? ⟨w.heap.size,2,none⟩=some (.slice OA on oc):=(BW.out.cell (p:=⟨w.heap.size,2,none⟩) (by simp)).trans (by go_cell);have hlw:((w64s (ins.map bw)).length=kk * 1):=by simp [w64s,LI.out]
   have HLW:Aside ((w64s (ins.map bw)).length=kk * 1):=hlw;clear hlw
   cases hok:okC c kk
   ·go_wp2_with fail;refine (words_bad c GA OA _ gn gc on oc kk kk _ (H.out.up B0.out) (by unfold maxLen;omega) hok).mono ?_;rintro e w1 ⟨rfl,hb⟩;go_wp2;go_ret2;exact .inl ⟨hok,rfl,B0.out.trans (hb.mono B0.out.size)⟩
   ·have h3:on≤1000:=by
     simp only [okC,Bool.and_eq_true] at hok;have:=(rightC_parts hok.1).1.2.2.2;rw [LO.out] at this;exact this
    have hmk:=fun W=>make_like (P:=Tryz.prog) Tryz.underlying39 bool_info' rfl on (on:Int) rfl (by omega) (by omega) W
    go_wp2_with fail;refine (words_ok c GA OA (some ⟨w.heap.size+1,0,none⟩) gn gc on oc kk kk (ins.map bw) _ (H.out.up B0.out) (RW'.out.rd HLW.out) hok).mono ?_;rintro e w1 ⟨g,rfl,hrow,hgle,hb⟩;have HROW:Aside (Row w1 g 79 (w64s (outsG evalW 0 c (ins.map bw)))):=hrow;have hgl:g < w1.heap.size:=hrow.lt;have HB1:Aside (Below w.heap.size w w1):=B0.out.trans (hb.mono B0.out.size);have LL:Aside ((outsG evalW 0 c (ins.map bw)).length=on):=by show _=_;rw [outsG,List.length_map,LO.out]
    clear hb hrow c0 c1 c2;go_wp2
    go_loopg [42] on (fun gg s42 wr'=>∃ jj:Nat,jj≤on∧on - jj≤gg∧s42=.int .i64 jj∧Aside (Below w1.heap.size w1 wr')∧Aside (Row wr' w1.heap.size 4 (bools (((outsG evalW 0 c (ins.map bw)).take jj).map lo) ++ List.replicate (on - jj) (.bool false))))
    case atStart=>exact ⟨0,Nat.zero_le _,by omega,rfl,(show Below _ _ _ by go_grown),Row.new _ _ _⟩
    case round=>
     rename World=>wr2
     clear hmk;obtain ⟨jj,hjj,hg2,rfl,BW2,RW2⟩:=hrel;by_cases hlt2:jj < on
     ·have hltz2:(jj:Int) < (on:Int):=by omega
      have hv:wr2.cell? ⟨g,jj,none⟩=some (w64 ((outsG evalW 0 c (ins.map bw)).getD jj 0)):=by
       rw [BW2.out.cell (p:=⟨g,jj,none⟩) hgl,HROW.out.cell jj];have:=w64s_at (outsG evalW 0 c (ins.map bw)) [] jj (by rw [LL.out];exact hlt2)
       simpa using this
      have HT:Aside _:=map_take_w lo (outsG evalW 0 c (ins.map bw)) jj (by rw [LL.out];exact hlt2);have hlt':(((outsG evalW 0 c (ins.map bw)).take jj).map lo).length=jj:=by rw [List.length_map,List.length_take,LL.out];omega
      generalize (outsG evalW 0 c (ins.map bw)).getD jj 0=x at hv HT;have HS:Aside _:=cbools_set (((outsG evalW 0 c (ins.map bw)).take jj).map lo) (lo x) jj (on - jj) (.bool false) hlt' (by omega);have vc:wr2.cell? ⟨w1.heap.size,jj,none⟩=some (.bool false):=(RW2.out.cell jj).trans (bools_next _ _ _ _ hlt' (by omega));have vf:wr2.frozen? ⟨w1.heap.size,jj,none⟩=false:=RW2.out.frozen jj;clear hlt';unfold w64 at hv;go_wp2;go_roundg (on - (jj+1))
      case measure=>omega
      case rel=>
       have BB:=BW2.out;refine ⟨jj+1,by omega,by omega,by go_num,(show Below _ _ _ by go_grown),?_⟩;show Row _ _ _ _;rw [HT.out,show on - (jj+1)=on - jj - 1 from by omega,← HS.out,w64_lo];exact RW2.out.set _ _
     ·have hltz2:¬ (jj:Int) < (on:Int):=by omega
      obtain rfl:jj=on:=by omega
      go_wp2;go_ret2;refine Or.inr ⟨hok,w1.heap.size,rfl,?_,HB1.out.size,HB1.out.trans (BW2.out.mono HB1.out.size)⟩;have:=RW2.out;rw [Nat.sub_self,List.replicate_zero,List.append_nil,← LL.out,List.take_length] at this;exact this
end Go.Proofs.YtbijfnbelkbofaaGreatDoor
namespace Go.Proofs.YtbijfnbelkbofaaGreatDoor
open Go.RowKit
def bitOf (b:Nat) (x:BitVec 64):Bool:=x.getLsbD b
theorem evalW_bit (op:Int) (x y:BitVec 64) (b:Nat) (hb:b < 64):bitOf b (evalW op x y)=evalB op (bitOf b x) (bitOf b y):=by
 unfold bitOf evalW evalB;split
 ·rw [BitVec.getLsbD_allOnes];simp [hb]
 ·split
  ·simp [hb]
  ·split
   ·simp
   ·split
    ·simp
    ·split
     ·simp
     ·simp
theorem getD_map_bit (vs:List (BitVec 64)) (b k:Nat):(vs.map (bitOf b)).getD k false=bitOf b (vs.getD k 0):=by
 simp only [List.getD_eq_getElem?_getD,List.getElem?_map]
 cases vs[k]? <;> simp [bitOf]
theorem runG_bit (gs:List Gt) (vs:List (BitVec 64)) (b:Nat) (hb:b < 64):(runG evalW 0 gs vs).map (bitOf b)=runG evalB false gs (vs.map (bitOf b)):=by
 induction gs generalizing vs with
 | nil=>rfl
 | cons g l ih=>
  have h1:runG evalW 0 (g :: l) vs=runG evalW 0 l (vs ++ [evalW g.op (vs.getD g.a.toNat 0) (vs.getD g.b.toNat 0)]):=rfl;have h2:runG evalB false (g :: l) (vs.map (bitOf b))=runG evalB false l (vs.map (bitOf b) ++ [evalB g.op ((vs.map (bitOf b)).getD g.a.toNat false) ((vs.map (bitOf b)).getD g.b.toNat false)]):=rfl;rw [h1,h2,ih,List.map_append,List.map_cons,List.map_nil,evalW_bit _ _ _ _ hb,getD_map_bit,getD_map_bit]
theorem outsG_bit (c:Circ) (vs:List (BitVec 64)) (b:Nat) (hb:b < 64):(outsG evalW 0 c vs).map (bitOf b)=outsG evalB false c (vs.map (bitOf b)):=by
 simp only [outsG,List.map_map]
 apply List.map_congr_left
 intro o _;simp only [Function.comp];rw [← runG_bit _ _ _ hb,getD_map_bit]
def low (b:Nat) (x:BitVec 64):BitVec 64:=BitVec.ofNat 64 (x.toNat % 2 ^ b)
section
variable {α β:Type} (f g:α→β) (h:β→Value) (l:List α) (d:α)
end
end Go.Proofs.YtbijfnbelkbofaaGreatDoor
namespace Go.Proofs.YtbijfnbelkbofaaGreatDoor
open Go.RowKit
theorem evl_lo (c:Circ) (ins:List Bool):(outsG evalW 0 c (ins.map bw)).map lo=outsG evalB false c ins:=by
 have h1:lo=bitOf 0:=rfl;have h2:bitOf 0 ∘ bw=id:=funext (fun b=>by cases b <;> rfl);rw [h1,outsG_bit _ _ _ (by omega),List.map_map,h2,List.map_id]
theorem eval_right (c:Circ) (GA OA IA:Option Addr) (gn gc on oc n ic:Nat) (ins:List Bool) (w:World) (h:CAt w c GA OA gn on) (hI:Rd w w.heap.size 1 IA n (bools ins)) (hr:rightC c=true) (hn:(n:Int)=c.inputs):
 Calls Tryz.prog 10 #[.agg #[.int .i64 c.inputs,.slice GA gn gc,.slice OA on oc],.slice IA n ic] w fun e w'=>∃ g,e=.returned (.tuple #[.slice (some ⟨g,0,none⟩) on on,.int .i64 0])∧Row w' g 4 (bools (outsG evalB false c ins))∧w.heap.size≤g∧Below w.heap.size w w':=by
 have hb:=(rightC_parts hr).1;have hok:okC c n=true:=by simp only [okC,Bool.and_eq_true,decide_eq_true_eq];exact ⟨hr,hn⟩
 refine (eval_head c GA OA IA gn gc on oc n ic ins w h hI (by omega)).mono fun e w' hp=>?_
 rcases hp with ⟨hk,_⟩ | ⟨_,g,he,hrow,hg,hB⟩
 ·rw [hok] at hk;cases hk
 ·rw [evl_lo] at hrow;exact ⟨g,he,hrow,hg,hB⟩
theorem outsG_len {α:Type} (f:Int→α→α→α) (d:α) (c:Circ) (vs:List α):(outsG f d c vs).length=c.outs.length:=by simp [outsG]
end Go.Proofs.YtbijfnbelkbofaaGreatDoor
namespace Go.Proofs.YtbijfnbelkbofaaGreatDoor
open Go.RowKit
set_option maxHeartbeats 400000 in
theorem lBits_any (x:Int) (w:World):Calls Tryz.prog 27 #[.int .i64 x] w fun e w'=>e=.returned (.int .i64 (bitsF x))∧w=w':=by
 have hb:Hid (x=2∨x=3∨x=4∨(x≠2∧x≠3∧x≠4)):=by show _∨_;omega
 rcases hb.out with rfl | rfl | rfl | h
 ·go_enter Tryz.func27,Tryz.ntmps27;go_wp2;go_ret;exact ⟨rfl,rfl⟩
 ·go_enter Tryz.func27,Tryz.ntmps27;go_wp2;go_ret;exact ⟨rfl,rfl⟩
 ·go_enter Tryz.func27,Tryz.ntmps27;go_wp2;go_ret;exact ⟨rfl,rfl⟩
 ·have h2:(x == 2)=false:=by simpa using h.1
  have h3:(x == 3)=false:=by simpa using h.2.1
  have h4:(x == 4)=false:=by simpa using h.2.2
  have HX:=hiD h;clear h hb;go_enter Tryz.func27,Tryz.ntmps27;go_wp2
  all_goals go_ret
  all_goals refine ⟨ret_i64 ?_,rfl⟩
  all_goals
   have:=HX.out;unfold bitsF;rw [if_neg (by omega),if_neg (by omega)]
   first
    | rw [if_pos (by omega)];rfl
    | rw [if_neg (by omega)];rfl
theorem bit_and (v:Int) (h0:0≤v) (h1:v≤7):bits BinOp.and IntKind.i64 v 1=v % 2:=by
 have:v=0∨v=1∨v=2∨v=3∨v=4∨v=5∨v=6∨v=7:=by omega
 rcases this with rfl | rfl | rfl | rfl | rfl | rfl | rfl | rfl <;> decide
theorem bit_run (x:Int) (k:Nat) (h0:0≤x) (h1:x≤7):bits BinOp.and IntKind.i64 (x / 2 ^ k) 1=x / 2 ^ k % 2:=by
 have hp:(0:Int) < 2 ^ k:=Int.pow_pos (by omega);have h2:x / 2 ^ k≤x:=Int.ediv_le_self _ h0;have h3:0≤x / 2 ^ k:=Int.ediv_nonneg h0 (by omega);exact bit_and _ h3 (by omega)
theorem bit_cases (x:Int) (k:Nat):x / 2 ^ k % 2=if bitI x k=true then 1 else 0:=by
 unfold bitI;split <;> simp_all <;> omega
theorem or_pow (n:Int) (k:Nat) (h0:0≤n) (h1:n < 2 ^ k) (hk:k≤7):bits BinOp.or IntKind.i64 n (2 ^ k)=n+2 ^ k:=by
 have key:∀ k:Fin 8,∀ n:Fin 128,n.val < 2 ^ k.val→bits BinOp.or IntKind.i64 (n.val:Int) (2 ^ k.val)=(n.val:Int)+2 ^ k.val:=by decide +kernel
 obtain ⟨m,rfl⟩:∃ m:Nat,n=(m:Int):=⟨n.toNat,by omega⟩
 have hm:m < 2 ^ k:=by
  have:((2 ^ k:Nat):Int)=2 ^ k:=by simp
  omega
 have hm2:m < 128:=by
  have:2 ^ k≤2 ^ 7:=Nat.pow_le_pow_right (by omega) hk;omega
 exact key ⟨k,by omega⟩ ⟨m,hm2⟩ hm
theorem bl_snoc (l:List Bool) (k:Nat) (h:k < l.length):l.take (k+1)=l.take k ++ [l.getD k false]:=by
 rw [List.take_succ_eq_append_getElem h,List.getD_eq_getElem?_getD,List.getElem?_eq_getElem h];rfl
theorem stateF_big {l:List Bool} (h:8 < l.length):stateF l=0:=by rw [stateF,if_pos h]
theorem stateF_small {l:List Bool} (h:¬ 8 < l.length):stateF l=valB l:=by rw [stateF,if_neg h]
set_option maxHeartbeats 1000000 in
theorem lState_any (A:Option Addr) (n c:Nat) (l:List Bool) (w:World) (h:Rd w w.heap.size 1 A n (bools l)) (hm:n≤maxLen):Calls Tryz.prog 13 #[.slice A n c] w fun e w'=>e=.returned (.int .i64 (stateF l))∧w=w':=by
 have H:=hiD h;have HL:Hid (l.length=n):=by have:=h.1;rw [bools_length,Nat.mul_one] at this;exact this
 unfold maxLen at hm;clear h;by_cases hb:8 < n
 ·have HE:Hid (stateF l=0):=stateF_big (by rw [HL.out];exact hb);go_enter Tryz.func13,Tryz.ntmps13;go_wp2;go_ret;exact ⟨ret_i64 HE.out.symm,rfl⟩
 have HE:Hid (stateF l=valB l):=stateF_small (by rw [HL.out];exact hb);go_enter Tryz.func13,Tryz.ntmps13;go_wp2
 go_loopg [3,4,5,11] n (fun gg s3 _ _ s11 wr=>∃ (kk:Nat) (z:Int),kk≤n∧n - kk≤gg∧s11=.int .i64 kk∧s3=.int .i64 z∧wr=w∧Aside (z=valB (l.take kk)))
 case atStart=>exact ⟨0,0,Nat.zero_le _,by omega,rfl,rfl,rfl,(show _=_ by simp [valB])⟩
 case round=>
  obtain ⟨kk,z,hkk,hgg,rfl,rfl,rfl,HZ⟩:=hrel;by_cases hlt:kk < n
  ·have hltz:(kk:Int) < (n:Int):=by omega
   obtain ⟨ad,rfl,hb',hz⟩:=H.out.bool hlt;have hbd:=valB_bd (l.take kk);rw [← HZ.out,List.length_take,HL.out,Nat.min_eq_left hkk] at hbd
   have HS:Hid (valB (l.take (kk+1))=z+if l.getD kk false=true then 2 ^ kk else 0):=by
    show _=_;rw [bl_snoc l kk (by rw [HL.out];exact hlt),valB_snoc,← HZ.out,List.length_take,HL.out,Nat.min_eq_left hkk]
   generalize l.getD kk false=b at hz HS;have hor:=or_pow z kk hbd.1 hbd.2 (by omega)
   have hpw:Hid ((1:Int)≤2 ^ kk∧(2:Int) ^ kk≤128):=by
    have hx:kk=0∨kk=1∨kk=2∨kk=3∨kk=4∨kk=5∨kk=6∨kk=7:=by omega
    rcases hx with rfl | rfl | rfl | rfl | rfl | rfl | rfl | rfl <;> exact ⟨by decide,by decide⟩
   have hwr:IntKind.i64.wrap (2 ^ kk)=2 ^ kk:=IntWalk.i64_in _ (by have:=hpw.out;omega);have h2p:(2:Int) ^ kk≤128:=hpw.out.2;have h1p:(1:Int)≤2 ^ kk:=hpw.out.1;have hk7:kk≤7:=by omega
   clear hbd
   cases b
   ·go_wp2;go_roundg (n - (kk+1))
    case measure=>omega
    case rel=>exact ⟨kk+1,z,by omega,by omega,by go_num,rfl,rfl,(show _=_ by rw [HS.out];simp)⟩
   ·go_wp2;go_roundg (n - (kk+1))
    case measure=>omega
    case rel=>exact ⟨kk+1,z+2 ^ kk,by omega,by omega,by go_num,by first | rfl | (rw [hor];done) | simp [hor],rfl,(show _=_ by rw [HS.out];simp)⟩
  ·have hltz:¬ (kk:Int) < (n:Int):=by omega
   obtain rfl:kk=n:=by omega
   go_wp2;go_ret;refine ⟨ret_i64 ?_,rfl⟩;rw [HE.out,HZ.out,List.take_of_length_le (by rw [HL.out];exact Nat.le_refl _)]
end Go.Proofs.YtbijfnbelkbofaaGreatDoor
