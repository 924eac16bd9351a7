/-
  Lemmas for the law TopCircuits.
-/
import Derived.Test.YtbijfnbelkbofaaGreatDoorJZ40
import Derived.Test.YtbijfnbelkbofaaGreatDoorJZ39
import Derived.Test.YtbijfnbelkbofaaGreatDoorJZ29
import Derived.Test.YtbijfnbelkbofaaGreatDoorJZ38
import Derived.Test.YtbijfnbelkbofaaGreatDoorJZ14
import Derived.Test.YtbijfnbelkbofaaGreatDoorJZ42
import Derived.Test.YtbijfnbelkbofaaGreatDoorJZ22
import Derived.Lib.SplitLaws
set_option linter.unusedSimpArgs false
set_option linter.unusedVariables false
namespace Go.Proofs.YtbijfnbelkbofaaGreatDoor
open Go.RowKit
def InputsPost (t:Tre) (ins:List Int) (w:World) (e:Ending) (w':World):Prop:=
 ∃ (A:Option Addr) (n c:Nat),e=.returned (.tuple #[.slice A n c,.int .i64 (evalErr t ins)])∧Rd w' w'.heap.size 1 A n (bools (inputsR t ins))∧n≤maxLen∧Below w.heap.size w w'
theorem inputsPost_err {t:Tre} {ins:List Int} {w w':World} {k:Int} (h:evalErr t ins=k) (h0:k≠0) (hb:Below w.heap.size w w'):InputsPost t ins w (.returned (.tuple #[.slice none 0 0,.int .i64 k])) w':=by
 refine ⟨none,0,0,by rw [h],?_,by unfold maxLen;omega,hb⟩;rw [inputsR,if_neg (by rw [h];exact h0)];exact Rd.empty none
theorem bool_infoL:(Tryz.prog.info? 4).map (fun i=>(i.zero,i.size,i.bytes))=some (some (.bool false),1,1):=by kernel_rfl
theorem bitsOf_get' (b:Nat) (v:Int) (k:Nat) (h:k < b):(bitsOf b v).getD k false=bitI v k:=by
 simp [bitsOf,List.getD_eq_getElem?_getD,List.getElem?_map,List.getElem?_range h]
set_option maxRecDepth 100000 in
set_option maxHeartbeats 4000000 in
theorem lInputs_any (t:Tre) (HA NA IA:Option Addr) (hn hc nn nc n ic:Nat) (sl:List Sl) (ins:List Int) (w:World) (h:TAt w t HA NA hn nn sl) (hI:Rd w w.heap.size 1 IA n (ints ins)) (hm:n≤maxLen):
 Calls Tryz.prog 9 #[.agg #[.int .i64 t.states,.slice HA hn hc,.slice NA nn nc],.slice IA n ic] w (InputsPost t ins w):=by
 have H:=hiD h;have HLH:Hid (t.hood.length=hn):=h.hl;have HI:=hiD hI;have HIL:Hid (ins.length=n):=by have:=hI.1;rw [ints_length,Nat.mul_one] at this;exact this
 have hm1:=h.h63;clear h hI;unfold maxLen at hm hm1;go_enter Tryz.func9,Tryz.ntmps9;go_wp2_with fail;refine (treeRight_any t HA NA hn hc nn nc sl _ (H.out.up (by go_grown))).mono ?_;rintro e w1 ⟨rfl,hb⟩;have HB:Hid (Below w.heap.size w w1):=below_next hb (by go_grown);have RA:Hid (Row w1 w.heap.size 27 [.int .i64 t.states,.slice HA hn hc,.slice NA nn nc]):=rowCells (Row.new w 27 [.int .i64 t.states,.slice HA hn hc,.slice NA nn nc]) hb;clear hb;obtain ⟨k0,k1,k2,kl⟩:=RA.out.cells3
 cases hr:rightT t
 ·have HE:Hid (evalErr t ins=11):=evalErr_11 hr;clear hr;go_wp2;go_ret2;exact inputsPost_err HE.out (by decide) HB.out
 have HR:=hiD hr;clear hr
 cases hne:((n:Int) != (hn:Int))
 case true=>
  have HE:Hid (evalErr t ins=2):=evalErr_2 HR.out (by rw [HIL.out,HLH.out];intro e;rw [e] at hne;simp at hne);go_wp2;go_ret2;exact inputsPost_err HE.out (by decide) HB.out
 have hqq:(n:Int)=(hn:Int):=by simpa using hne
 obtain rfl:n=hn:=by omega
 clear hne hqq;have HLI:Hid (ins.length=t.hood.length):=HIL.out.trans HLH.out.symm
 have hn25:n≤25:=by
  have hh:=(rightT_parts HR.out).1;simp only [hoodOk,Bool.and_eq_true,decide_eq_true_eq] at hh;rw [HLH.out] at hh;omega
 have hst:2≤t.states∧t.states≤8:=(rightT_parts HR.out).2.1.1;have hnn:((n:Int) != (n:Int))=false:=by simp
 go_wp2;clear hnn k0 k1 k2 kl;generalize hbb:bitsF t.states=b at *;have HBB:=hiD hbb;have hb3:b≤3:=by rw [← hbb];exact bitsF_bd _
 clear hbb
 go_loopg [6,8,9,21] n (fun gg s6 _ _ s21 wr=>∃ kk:Nat,kk≤n∧n - kk≤gg∧s21=.int .i64 kk∧Aside (Below w1.heap.size w1 wr)∧Aside (wr.ownsRow w1.heap.size 4 1 s6 (kk * b) (bools ((ins.take kk).flatMap (bitsOf b))))∧Aside (∀ j,j < kk→stateIn t (ins.getD j 0)=true))
 case atStart=>exact ⟨0,Nat.zero_le _,by omega,rfl,Below.refl _ _,(by show World.ownsRow _ _ _ _ _ _ _;simpa [bools] using World.ownsRow_nil _ _ _ _),fun j hj=>absurd hj (Nat.not_lt_zero _)⟩
 case round=>
  obtain ⟨kk,hkk,hgg,rfl,BW,OW,AA⟩:=hrel;have RW:=hiD (rowCells RA.out BW.out);have HBr:=hiD (below_on2 HB.out BW.out);obtain ⟨k0,k1,k2,kl⟩:=RW.out.cells3;by_cases hlt:kk < n
  ·have hltz:(kk:Int) < (n:Int):=by omega
   obtain ⟨ad,rfl,hb',hz⟩:=(HI.out.up HBr.out).int hlt;generalize hzz:ins.getD kk 0=z at hz;have HZ:=hiD hzz;clear hzz;by_cases a1:z < 0
   ·have HE:Hid (evalErr t ins=10):=evalErr_10 HR.out HLI.out (all_false_at _ _ kk (by rw [HIL.out];exact hlt) (by rw [HZ.out];exact decide_eq_false (by omega)));have d1:decide (z < 0)=true:=by simpa using a1
    go_wp2;go_ret2;exact inputsPost_err HE.out (by decide) HBr.out
   have d1:decide (z < 0)=false:=by simpa using a1
   by_cases a2:t.states≤z
   ·have HE:Hid (evalErr t ins=10):=evalErr_10 HR.out HLI.out (all_false_at _ _ kk (by rw [HIL.out];exact hlt) (by rw [HZ.out];exact decide_eq_false (by omega)));have d2:decide (t.states≤z)=true:=by simpa using a2
    go_wp2;go_ret2;exact inputsPost_err HE.out (by decide) HBr.out
   have d2:decide (t.states≤z)=false:=by simpa using a2
   have HK:Hid (stateIn t z=true):=decide_eq_true (by omega);have z0:0≤z:=by omega
   have z7:z≤7:=by omega
   go_wp2_with (go_at_call 27;refine (lBits_any _ _).mono ?_;rw [HBB.out];rintro e w4 ⟨rfl,rfl⟩)
   obtain ⟨wo,rfl⟩:∃ wo:World,wo=wr:=⟨_,rfl⟩
   go_loopg [6,9,36] b (fun gg s6 _ s36 wi=>∃ j:Nat,j≤b∧b - j≤gg∧s36=.int .i64 j∧Aside (Below w1.heap.size w1 wi)∧Aside (wi.ownsRow w1.heap.size 4 1 s6 (kk * b+j) (bools ((ins.take kk).flatMap (bitsOf b) ++ (bitsOf b z).take j))))
   case atStart=>exact ⟨0,Nat.zero_le _,by omega,rfl,BW.out,(by show World.ownsRow _ _ _ _ _ _ _;simpa using OW.out)⟩
   case round=>
    clear OW BW RW k0 k1 k2 kl hz HBr;obtain ⟨j,hj,hgj,rfl,BW,OW⟩:=hrel;have RW:=hiD (rowCells RA.out BW.out);have HBr:=hiD (below_on2 HB.out BW.out);obtain ⟨k0,k1,k2,kl⟩:=RW.out.cells3;have hbs:w1.heap.size≤wr.heap.size:=BW.out.size;by_cases hlj:j < b
    ·have hljz:(j:Int) < (b:Int):=by omega
     have hbit:(bits BinOp.and IntKind.i64 (z / 2 ^ j) 1 == 1)=bitI z j:=by rw [bit_run z j z0 z7];rfl
     have HT:Hid ((bitsOf b z).take (j+1)=(bitsOf b z).take j ++ [bitI z j]):=by
      show _=_;rw [bl_snoc _ _ (by rw [bitsOf_length];exact hlj),bitsOf_get' b z j hlj]
     have hkb:kk * b≤75:=by have:=Nat.mul_le_mul (show kk≤25 by omega) hb3;omega
     have hkj:kk * b+j≤100:=by omega
     generalize hp:kk * b+j=p at OW hkj;have HP:=hiD hp;generalize hxs:(ins.take kk).flatMap (bitsOf b) ++ (bitsOf b z).take j=xs at OW;have HX:=hiD hxs;clear hp hxs hkb
     go_wp2_with (at_builtin;refine wpList_app rfl (.tmp 39) (.tmp 45) 39 rfl w1.heap.size 4 (.bool false) 1 1 Tryz.underlying39 bool_infoL rfl (by decide) (by decide) u6 (p) (bools xs) rfl ?own (wr.heap.size+1) (some ⟨wr.heap.size,0,none⟩) 1 1 [.bool (bitI z j)] rfl ?rd ?one ?hb ?hbase ?_)
     case own=>exact (OW.out).alloc _
     case rd=>exact Rd.lit wr #[.bool (bitI z j)] 4 (sz:=1) (m:=1) rfl
     case one=>intro u hu;simp at hu;subst hu;rfl
     case hb=>omega
     case hbase=>simp;omega
     intro v' w' hown' hgrow' hat';have BB:=BW.out;have B3:Below w1.heap.size w1 (wr.alloc (.cells #[.bool (bitI z j)] 4)):=by go_grown
     have HB4:Aside (Below w1.heap.size w1 w'):=B3.grown hgrow' (by simp;omega) (fun k hk=>(OW.out.lt k hk).1)
     have HOWN':Aside (w'.ownsRow w1.heap.size 4 1 v' (p+1) (bools (xs ++ [bitI z j]))):=by
      show w'.ownsRow _ _ _ _ _ _
      simpa [bools] using hown'
     clear B3 BB hown' hgrow' hat' hbit;go_wp2;go_roundg (b - (j+1))
     case measure=>omega
     case rel=>
      refine ⟨j+1,by omega,by omega,by go_num,HB4.out,?_⟩;show World.ownsRow _ _ _ _ _ _ _;rw [HT.out,← List.append_assoc,HX.out,← Nat.add_assoc,HP.out];exact HOWN'.out
    ·have hljz:¬ (j:Int) < (b:Int):=by omega
     obtain rfl:j=b:=by omega
     have OW':Aside (wr.ownsRow w1.heap.size 4 1 u6 ((kk+1) * j) (bools ((ins.take (kk+1)).flatMap (bitsOf j)))):=by
      show World.ownsRow _ _ _ _ _ _ _;have:=OW.out;have e9:(bitsOf j z).take j=bitsOf j z:=List.take_of_length_le (by rw [bitsOf_length];exact Nat.le_refl _);rw [e9] at this;rw [il_snoc _ _ (by rw [HIL.out];exact hlt),List.flatMap_append,HZ.out,Nat.add_mul,Nat.one_mul]
      simpa using this
     go_wp2;go_roundg (n - (kk+1))
     case measure=>omega
     case rel=>
      refine ⟨kk+1,by omega,by omega,by go_num,BW.out,OW'.out,(show Aside _ from fun i hi=>?_)⟩;by_cases e:i=kk
      ·subst e;rw [HZ.out];exact HK.out
      ·exact AA.out i (by omega)
  ·have hltz:¬ (kk:Int) < (n:Int):=by omega
   obtain rfl:kk=n:=by omega
   have HAL:Hid (ins.all (stateIn t)=true):=all_true_at _ _ (fun j hj=>AA.out j (by rw [HIL.out] at hj;exact hj));have HE:Hid (evalErr t ins=0):=evalErr_0 HR.out HLI.out HAL.out;obtain ⟨VA,vc,rfl,hrd⟩:=Rd.own OW.out
   have HRD:Hid (Rd wr wr.heap.size 1 VA (kk * b) (bools (inputsR t ins))):=by
    show Rd _ _ _ _ _ _;rw [inputsR,if_pos HE.out,inputsB,HBB.out];rw [List.take_of_length_le (by rw [HIL.out];exact Nat.le_refl _)] at hrd;exact hrd
   clear hrd OW;have hkb:Hid (kk * b≤75):=by have:=Nat.mul_le_mul (show kk≤25 by omega) hb3;show _≤_;omega
   go_wp2;go_ret2;exact ⟨VA,kk * b,vc,by rw [HE.out];rfl,HRD.out,by have:=hkb.out;unfold maxLen;omega,HBr.out⟩
end Go.Proofs.YtbijfnbelkbofaaGreatDoor
namespace Go.Proofs.YtbijfnbelkbofaaGreatDoor
end Go.Proofs.YtbijfnbelkbofaaGreatDoor
namespace Go.Proofs.YtbijfnbelkbofaaGreatDoor
open Go.RowKit
set_option maxHeartbeats 400000 in
theorem same_bools (A A':Option Addr) (n c c':Nat) (xs:List Bool) (w:World) (hx:Rd w w.heap.size 1 A n (bools xs)) (hy:Rd w w.heap.size 1 A' n (bools xs)) (hn:n≤maxLen):
 Calls Tryz.prog 12 #[.slice A n c,.slice A' n c'] w fun e w'=>e=.returned (.bool true)∧Below w.heap.size w w':=by
 have HX:=hiD hx;have HY:=hiD hy;unfold maxLen at hn;clear hx hy;go_enter Tryz.func12,Tryz.ntmps12;go_wp2
 go_loopg [5,13] n (fun gg _ s13 wr=>∃ kk:Nat,kk≤n∧n - kk≤gg∧s13=.int .i64 kk∧Aside (Below w.heap.size w wr))
 case atStart=>exact ⟨0,Nat.zero_le _,by omega,rfl,Below.refl _ _⟩
 case round=>
  obtain ⟨kk,hkk,hg,rfl,BW⟩:=hrel;by_cases hlt:kk < n
  ·have hltz:(kk:Int) < (n:Int):=by omega
   obtain ⟨ad,rfl,hb,hcell⟩:=(HX.out.below BW.out (Nat.le_refl _)).bool hlt;obtain ⟨ad',rfl,hb',hcell'⟩:=(HY.out.below BW.out (Nat.le_refl _)).bool hlt;generalize xs.getD kk false=x at hcell hcell';have hne:(!(x == x))=false:=by simp
   go_wp2_with fail;go_quiet (fail);go_wp2;go_roundg (n - (kk+1))
   case measure=>omega
   case rel=>exact ⟨kk+1,by omega,by omega,by go_num,(show Below _ _ _ from below_drewN BW.out _)⟩
  ·have hltz:¬ (kk:Int) < (n:Int):=by omega
   go_wp2;go_ret;exact ⟨rfl,BW.out⟩
theorem circ_law {t:Tre} {ins:List Int} (h:evalErr t ins=0) (hm:t.nodes.length≤400):
 outsG evalB false (allC (lowR t)) (inputsB t ins)=outsG evalB false (lowR t) (inputsB t ins)∧stateF (outsG evalB false (lowR t) (inputsB t ins))=evalV t ins∧(allC (lowR t)).gates.length≤(lowR t).gates.length∧rightC (lowR t)=true∧rightC (allC (lowR t))=true∧(allC (lowR t)).inputs=(lowR t).inputs∧lowErr t=0∧((inputsB t ins).length:Int)=(lowR t).inputs:=by
 have hr:=(evalErr_parts h).1;have hc:=lowR_right hr hm;have hi:(lowR t).inputs=(lowN t:Int):=by rw [lowR,if_pos hr]
 refine ⟨all_sem hc (by rw [inputs_len h,hi]),?_,Nat.le_trans (all_gates hc) (trim_le hc),hc,all_right hc,(all_io hc).1,by rw [lowErr,if_pos hr],by rw [inputs_len h,hi]⟩;rw [(low_same h).2,evalV,if_pos h]
set_option maxRecDepth 100000 in
set_option maxHeartbeats 4000000 in
theorem topCircuits_walk (s:ByteArray) (ins:List Int) (IA:Option Addr) (n ic:Nat) (w:World) (hs:s.size≤maxLen) (hi:Rd w w.heap.size 1 IA n (ints ins)) (hm:n≤maxLen) (G:GEnv w)
 (hgp:s.size≤200→∀ W,GEnv W→Calls Tryz.prog 17 #[.string s] W (TotB W)) (hrp:s.size≤200→∀ W,GEnv W→Calls Tryz.prog 21 #[.string s] W (TblB W)):
 Calls Tryz.prog 3 #[.string s,.slice IA n ic] w fun e w'=>e=.returned (.bool true)∧Below w.heap.size w w':=by
 have HG:=hiD G;have HGP:=hiD hgp;have HRP:=hiD hrp;have HI:=hiD hi;have HNM:=hiD hm;unfold maxLen at hs hm;clear G hgp hrp hi;go_enter Tryz.func3,Tryz.ntmps3;by_cases h1:200 < s.size
 ·have d1:decide ((200:Int) < (s.size:Int))=true:=decide_eq_true (by omega);have e1:decide (200 < s.size)=true:=decide_eq_true h1;go_wp2_with fail;refine (awake_any _ (tab_up HG.out.tab (Below.refl w.heap.size w) (Below.size (Below.refl w.heap.size w)))).mono ?_;rintro e w9 ⟨rfl,hb9⟩;have HBE:Hid (Below w.heap.size w w9):=below_on2 (Below.refl w.heap.size w) hb9;clear hb9;go_wp2;go_ret;exact ⟨rfl,HBE.out⟩
 have d1:decide ((200:Int) < (s.size:Int))=false:=decide_eq_false (by omega);have e1:decide (200 < s.size)=false:=decide_eq_false h1;by_cases h2:30 < n
 ·have d2:decide ((30:Int) < (n:Int))=true:=decide_eq_true (by omega);have e2:decide (30 < n)=true:=decide_eq_true h2;go_wp2_with fail;refine (awake_any _ (tab_up HG.out.tab (Below.refl w.heap.size w) (Below.size (Below.refl w.heap.size w)))).mono ?_;rintro e w9 ⟨rfl,hb9⟩;have HBE:Hid (Below w.heap.size w w9):=below_on2 (Below.refl w.heap.size w) hb9;clear hb9;go_wp2;go_ret;exact ⟨rfl,HBE.out⟩
 have d2:decide ((30:Int) < (n:Int))=false:=decide_eq_false (by omega);have e2:decide (30 < n)=false:=decide_eq_false h2;go_wp2_with fail;refine (parse_any s (by omega) w HG.out (HGP.out (by omega)) (HRP.out (by omega))).mono ?_;rintro e w1 ⟨t,HA,hn,hc,NA,nc,sl,k,rfl,htr,hb⟩;have HT:Hid (TAt w1 t HA NA hn t.nodes.length sl):=htr.tat
 obtain ⟨nn,hnn⟩:∃ nn,t.nodes.length=nn:=⟨_,rfl⟩
 rw [hnn] at HT;rw [hnn];have HNN:=hiD hnn;clear htr hnn d1 d2 e1 e2 HGP HRP;have B_w:=hiD hb;clear hb;go_upto_region 4 with fail;obtain ⟨w2,hW9,RT,hgr9⟩:=laid1 w1 [.int .i64 t.states,.slice HA hn hc,.slice NA nn nc] 27;rewrite [hW9];clear hW9;have B_w:=hiD (below_on2 B_w.out hgr9);have B_w1:=hiD hgr9;clear hgr9;by_cases hk:k=0
 rotate_left 1
 ·have e1:(k == 0)=false:=by simp [hk]
  have e2:(k != 0)=true:=by simp [hk]
  go_wp2_with fail;refine (awake_any _ (tab_up HG.out.tab B_w.out (Below.size B_w.out))).mono ?_;rintro e w9 ⟨rfl,hb9⟩;have HBE:=hiD (below_on2 B_w.out hb9);clear hb9;go_wp2;go_ret;exact ⟨rfl,HBE.out⟩
 subst hk;obtain ⟨k0,k1,k2,kl⟩:=RT.out.cells3;go_wp2_with fail
 obtain ⟨q,hq⟩:∃ q,fewT t=q:=⟨_,rfl⟩
 have HQ:=hiU hq;have HC:=fewT_any t HA NA hn hc nn nc sl w2 (HT.out.up B_w1.out);rw [hq] at HC;clear hq;refine HC.mono ?_;clear HC;rintro e w3 ⟨rfl,hb⟩;have B_w:=hiD (below_on2 B_w.out hb);have B_w1:=hiD (below_on2 B_w1.out hb);have B_w2:=hiD hb;clear k0 k1 k2 kl;clear hb
 cases q with
 | false=>
  go_wp2_with fail;refine (awake_any _ (tab_up HG.out.tab B_w.out (Below.size B_w.out))).mono ?_;rintro e w9 ⟨rfl,hb9⟩;have HBE:=hiD (below_on2 B_w.out hb9);clear hb9;go_wp2;go_ret;exact ⟨rfl,HBE.out⟩
 | true=>
 have HN4:Hid (t.nodes.length≤400):=(fewT_parts (HQ.out ())).2;have hn4:nn≤400:=HNN.out ▸ HN4.out
 clear HQ;obtain ⟨k0,k1,k2,kl⟩:=(rowCells RT.out B_w2.out).cells3;go_wp2_with fail
 obtain ⟨er,her⟩:∃ er,evalErr t ins=er:=⟨_,rfl⟩
 obtain ⟨ev,hev⟩:∃ ev,evalV t ins=ev:=⟨_,rfl⟩
 have HER:=hiU her;have HEV:=hiU hev;have HC:=tEval_any t HA NA IA hn hc nn nc n ic sl ins w3 (HT.out.up B_w1.out) (HI.out.up B_w.out) HNM.out;unfold TEvalPost at HC;rw [her,hev] at HC;clear her hev;refine HC.mono ?_;clear HC;rintro e w4 ⟨rfl,hb⟩;have B_w:=hiD (below_on2 B_w.out hb);have B_w1:=hiD (below_on2 B_w1.out hb);have B_w2:=hiD (below_on2 B_w2.out hb);clear k0 k1 k2 kl;clear hb;obtain ⟨k0,k1,k2,kl⟩:=(rowCells RT.out B_w2.out).cells3;go_wp2_with fail;have HC:=lower_any t HA NA hn hc nn nc sl w4 (HT.out.up B_w1.out) hn4;unfold CPost at HC
 obtain ⟨le,hle⟩:∃ le,lowErr t=le:=⟨_,rfl⟩
 obtain ⟨c,hcc⟩:∃ c,lowR t=c:=⟨_,rfl⟩
 have HLE:=hiU hle;have HLC:=hiU hcc;rw [hle,hcc] at HC;clear hle hcc;refine HC.mono ?_;clear HC;rintro e w5 ⟨GA,OA,gn,gc,on,oc,he,hca,hb⟩;subst he;have HL:=hiD hca;clear hca;have B_w:=hiD (below_on2 B_w.out hb);have B_w1:=hiD (below_on2 B_w1.out hb);have B_w2:=hiD (below_on2 B_w2.out hb);clear k0 k1 k2 kl;clear hb;go_upto_region 8 with fail;obtain ⟨w6,hW9,RC,hgr9⟩:=laid1 w5 [.int .i64 c.inputs,.slice GA gn gc,.slice OA on oc] 36;rewrite [hW9];clear hW9;have B_w:=hiD (below_on2 B_w.out hgr9);have B_w1:=hiD (below_on2 B_w1.out hgr9);have B_w2:=hiD (below_on2 B_w2.out hgr9);have B_w5:=hiD hgr9;clear hgr9;by_cases her0:er=0
 rotate_left 1
 ·have e1:(er == 0)=false:=by simp [her0]
  have e2:(er != 0)=true:=by simp [her0]
  go_wp2_with fail;refine (awake_any _ (tab_up HG.out.tab B_w.out (Below.size B_w.out))).mono ?_;rintro e w9 ⟨rfl,hb9⟩;have HBE:=hiD (below_on2 B_w.out hb9);clear hb9;go_wp2;go_ret;exact ⟨rfl,HBE.out⟩
 subst her0;have hlaw:=circ_law (HER.out ()) HN4.out;rw [HLC.out (),HLE.out (),HEV.out ()] at hlaw;obtain ⟨l1,l2,l3,l4,l5,l6,l7,l8⟩:=hlaw;subst l7
 obtain ⟨d,hd⟩:∃ d,allC c=d:=⟨_,rfl⟩
 obtain ⟨bl,hbl⟩:∃ bl,inputsB t ins=bl:=⟨_,rfl⟩
 obtain ⟨os,hos⟩:∃ os,outsG evalB false c bl=os:=⟨_,rfl⟩
 have HD:=hiU hd;have HBL:=hiU hbl;have HOS:=hiU hos;rw [hd,hbl] at l1;rw [hbl,hos] at l2;rw [hos] at l1;rw [hd] at l3 l5 l6;rw [hbl] at l8;have L1:=hiU l1;have L2:=hiU l2;have L3:=hiD l3;have L4:=hiD l4;have L5:=hiD l5;have L6:=hiU l6;have L8:=hiU l8;clear l1 l2 l3 l4 l5 l6 l8 hd hbl hos;obtain ⟨k0,k1,k2,kl⟩:=(rowCells RT.out B_w2.out).cells3;go_wp2_with fail;have HC:=lInputs_any t HA NA IA hn hc nn nc n ic sl ins w6 (HT.out.up B_w1.out) (HI.out.up B_w.out) HNM.out;unfold InputsPost at HC;rw [HER.out ()] at HC;refine HC.mono ?_;clear HC;rintro e w7 ⟨BA,bn,bc,rfl,hbd,hbm,hb⟩
 have HBD:Hid (Rd w7 w7.heap.size 1 BA bn (bools bl)):=(by
  show Rd _ _ _ _ _ _
  rw [inputsR,if_pos (HER.out ()),HBL.out ()] at hbd;exact hbd)
 have HBN:Hid (∀ _:Unit,(bn:Int)=c.inputs):=fun _=>by
  have h1:=HBD.out.1;have h2:=L8.out ()
  simp [bools] at h1
  omega
 clear hbd hbm;have B_w:=hiD (below_on2 B_w.out hb);have B_w5:=hiD (below_on2 B_w5.out hb);have B_w6:=hiD hb;clear k0 k1 k2 kl;clear hb;obtain ⟨k0,k1,k2,kl⟩:=(rowCells RC.out B_w6.out).cells3;go_wp2_with fail;have HC:=eval_right c GA OA BA gn gc on oc bn bc bl w7 (HL.out.up B_w5.out) HBD.out L4.out (HBN.out ());rw [HOS.out ()] at HC;refine HC.mono ?_;clear HC;rintro e w8 ⟨g1,rfl,hrow,hg,hb⟩;have HG1:=hiD hrow;have HON:Hid (∀ _:Unit,os.length=on):=fun _=>by rw [← HOS.out (),outsG_len];exact HL.out.ol
 have hon:on≤maxLen:=HL.out.o63;have HOM:=hiD hon;clear hrow hg hon;have B_w:=hiD (below_on2 B_w.out hb);have B_w5:=hiD (below_on2 B_w5.out hb);have B_w6:=hiD (below_on2 B_w6.out hb);have B_w7:=hiD hb;clear k0 k1 k2 kl;clear hb;obtain ⟨k0,k1,k2,kl⟩:=(rowCells RC.out B_w6.out).cells3;go_wp2_with fail;have HC:=all_any c GA OA gn gc on oc w8 (HL.out.up B_w5.out);rw [HD.out ()] at HC;refine HC.mono ?_;clear HC;rintro e w10 ⟨DA,EA,dn,dc,en,ec,he,hca,-,-,hb⟩;subst he;have HDC:=hiD hca;clear hca;have B_w:=hiD (below_on2 B_w.out hb);have B_w6:=hiD (below_on2 B_w6.out hb);have B_w7:=hiD (below_on2 B_w7.out hb);have B_w8:=hiD hb;clear k0 k1 k2 kl;clear hb;go_upto_region 13 with fail;obtain ⟨w11,hW9,RD,hgr9⟩:=laid1 w10 [.int .i64 d.inputs,.slice DA dn dc,.slice EA en ec] 36;rewrite [hW9];clear hW9;have B_w:=hiD (below_on2 B_w.out hgr9);have B_w6:=hiD (below_on2 B_w6.out hgr9);have B_w7:=hiD (below_on2 B_w7.out hgr9);have B_w8:=hiD (below_on2 B_w8.out hgr9);have B_w10:=hiD hgr9;clear hgr9;obtain ⟨k0,k1,k2,kl⟩:=RD.out.cells3;go_wp2_with fail;have HC:=eval_right d DA EA BA dn dc en ec bn bc bl w11 (HDC.out.up B_w10.out) (HBD.out.up B_w7.out) L5.out (by rw [L6.out ()];exact HBN.out ());rw [L1.out ()] at HC;refine HC.mono ?_;clear HC;rintro e w12 ⟨g2,rfl,hrow,hg,hb⟩;have HG2:=hiD hrow
 have hen:en=on:=by
  have h1:=HON.out ();rw [← L1.out (),outsG_len,HDC.out.ol] at h1;exact h1
 subst hen;clear hrow hg;have B_w:=hiD (below_on2 B_w.out hb);have B_w6:=hiD (below_on2 B_w6.out hb);have B_w8:=hiD (below_on2 B_w8.out hb);have B_w11:=hiD hb;clear k0 k1 k2 kl;clear hb;go_wp2_with fail;have hrd1:Rd w12 w12.heap.size 1 (some ⟨g1,0,none⟩) en (bools os):=(Row.rd HG1.out (by rw [bools_length,HON.out ()];omega)).up B_w8.out;have HRD1:=hiD hrd1;have hrd2:Rd w12 w12.heap.size 1 (some ⟨g2,0,none⟩) en (bools os):=Row.rd HG2.out (by rw [bools_length,HON.out ()];omega);have HC:=same_bools (some ⟨g1,0,none⟩) (some ⟨g2,0,none⟩) en en en os w12 hrd1 hrd2 HOM.out;clear hrd1 hrd2;refine HC.mono ?_;clear HC;rintro e w13 ⟨rfl,hb⟩;have B_w:=hiD (below_on2 B_w.out hb);have B_w6:=hiD (below_on2 B_w6.out hb);have B_w11:=hiD (below_on2 B_w11.out hb);have B_w12:=hiD hb;clear hb;have HC:=lState_any (some ⟨g1,0,none⟩) en en os w13 (HRD1.out.up B_w12.out) HOM.out;rw [L2.out ()] at HC;have HC:=hiD HC;go_wp2_with fail;refine HC.out.mono ?_;clear HC;rintro e w14 ⟨rfl,rfl⟩
 have hgd:dn≤gn:=by
  have h1:=L3.out;rw [HDC.out.gl,HL.out.gl] at h1;exact h1
 have hee:(ev == ev)=true:=by simp
 have dgn:decide ((dn:Int)≤(gn:Int))=true:=decide_eq_true (by omega);have dgm:decide (dn≤gn)=true:=decide_eq_true hgd;obtain ⟨k0,k1,k2,kl⟩:=(rowCells RC.out B_w6.out).cells3;obtain ⟨j0,j1,j2,jl⟩:=(rowCells RD.out B_w11.out).cells3;go_wp2_with fail;refine (awake_any _ (tab_up HG.out.tab B_w.out (Below.size B_w.out))).mono ?_;rintro e w9 ⟨rfl,hb9⟩;have HBE:=hiD (below_on2 B_w.out hb9);clear hb9;go_wp2;go_ret;exact ⟨rfl,HBE.out⟩
end Go.Proofs.YtbijfnbelkbofaaGreatDoor
namespace Go.Proofs.YtbijfnbelkbofaaGreatDoor
open Go.RowKit
theorem extract_le (s:ByteArray) (a b:Nat):(s.extract a b).size≤s.size:=by rw [ByteArray.size_extract];omega
theorem splitB_small (sep:ByteArray):∀ (k:Nat) (s p:ByteArray),p ∈ Lib.splitB sep 0 k s→p.size≤s.size
 | 0,s,p,h=>by
  rw [Lib.splitB_zero] at h
  simp at h;subst h;exact Nat.le_refl _
 | k+1,s,p,h=>by
  unfold Lib.splitB at h;split at h
  ·simp at h;subst h;exact Nat.le_refl _
  ·rcases List.mem_cons.1 h with rfl | h
   ·exact extract_le _ _ _
   ·exact Nat.le_trans (splitB_small sep k _ p h) (extract_le _ _ _)
def slashes (s:ByteArray):Nat:=s.data.toList.count 47
theorem split_any (c:UInt8) (s:ByteArray) (hs:s.size≤100000) (w:World) (G:GEnv w):
 Calls Tryz.prog 52 #[.string s,.string ⟨#[c]⟩] w fun e w'=>∃ ps:List ByteArray,ps.length=s.data.toList.count c+1∧(∀ p ∈ ps,p.size≤s.size)∧e=.returned (.slice (some ⟨w.heap.size,0,none⟩) ps.length ps.length)∧Row w' w.heap.size 9 (ps.map Value.string)∧Below w.heap.size w w':=by
 obtain ⟨m,hm⟩:=G.ml;refine (strings_Split s ⟨#[c]⟩ m w (by omega) hm (by show 1≤1;omega)).mono ?_;rintro e w' ⟨rfl,rfl⟩;have hl:(Lib.splitB ⟨#[c]⟩ 0 (Lib.countB s ⟨#[c]⟩) s).length=Lib.countB s ⟨#[c]⟩+1:=Lib.splitB_all ⟨#[c]⟩ (by show 1≤1;omega) 0 _ s rfl;have hc:Lib.countB s ⟨#[c]⟩=s.data.toList.count c:=Lib.count_one c s.data.toList;refine ⟨_,by rw [hl,hc],splitB_small ⟨#[c]⟩ _ s,by rw [hl],?_,by go_grown⟩;exact Row.new w 9 _
theorem cutB_any (s:ByteArray) (w:World):Calls Tryz.prog 44 #[.string s,.string ⟨#[66]⟩] w fun e w'=>∃ (t:ByteArray) (b:Bool),e=.returned (.tuple #[.string t,.bool b])∧t.size≤s.size∧slashes t=slashes s∧w=w':=by
 refine (strings_CutPrefix s ⟨#[66]⟩ w).mono ?_;rintro e w' ⟨rfl,rfl⟩;refine ⟨_,_,rfl,?_,?_,rfl⟩
 ·rw [ba_size,← ba_len s];unfold Lib.trimPrefix;split
  ·rw [List.length_drop];omega
  ·omega
 ·unfold slashes;show List.count 47 (Lib.trimPrefix s.data.toList [66])=_;unfold Lib.trimPrefix;split
  ·rename_i h
   cases hl:s.data.toList with
   | nil=>simp
   | cons b r=>
    rw [hl] at h;unfold Lib.hasPrefix at h
    have hb:b=66:=by
     simp [List.isPrefixOf] at h
     exact h.symm
    subst hb
    simp
  ·rfl
set_option maxRecDepth 100000 in
set_option maxHeartbeats 4000000 in
theorem gNumber_any (s:ByteArray) (hs:s.size≤1000000) (w:World):Calls Tryz.prog 54 #[.string s] w (BoolPost w):=by
 go_enter Tryz.func54,Tryz.ntmps54;have hcv:=fun W=>Lib.run_convert_string_bytes (P:=Tryz.prog) W 9 156 5 s (u:=.string) Tryz.underlying9 Tryz.underlying156 Tryz.underlying5
 go_upto_region 2 with fail;clear hcv;have HB0:=hiD (Lib.bytesWorld_below w 5 s);have HC0:=hiD (Lib.bytesWorld_cell w 5 s);have HZ0:=hiD (Lib.bytesWorld_size w 5 s);revert HB0 HC0 HZ0;generalize Lib.bytesWorld w 5 s=wb;generalize grownCap w s.size 0 5=kcap;intro HB0 HC0 HZ0
 go_loopg [4,8] s.size (fun gg _ s8 wr=>∃ i:Nat,i≤s.size∧s.size - i≤gg∧s8=.int .i64 (i:Int)∧wb=wr)
 case atStart=>exact ⟨0,Nat.zero_le _,by omega,rfl,rfl⟩
 case round=>
  obtain ⟨i,hi,hgg,rfl,rfl⟩:=hrel;have hz0:wb.heap.size=w.heap.size+1:=HZ0.out;by_cases hlt:i < s.size
  ·have hltz:(i:Int) < (s.size:Int):=by omega
   have c0:=HC0.out i hlt;revert c0;generalize ((s.data.toList.getD i 0).toNat:Int)=z;intro c0;have hwl:w.heap.size < wb.heap.size:=by omega
   by_cases h1:z < 48
   ·have d1:decide (z < 48)=true:=decide_eq_true h1;go_wp2;go_ret;exact ⟨false,rfl,HB0.out⟩
   ·have d1:decide (z < 48)=false:=decide_eq_false h1;by_cases h2:57 < z
    ·have d2:decide (57 < z)=true:=decide_eq_true h2;go_wp2;go_ret;exact ⟨false,rfl,HB0.out⟩
    ·have d2:decide (57 < z)=false:=decide_eq_false h2;go_wp2;go_roundg (s.size - (i+1))
     case measure=>omega
     case rel=>exact ⟨i+1,by omega,by omega,by go_num,rfl⟩
  ·obtain rfl:i=s.size:=by omega
   clear hlt;go_wp2
   all_goals
    go_ret;exact ⟨_,rfl,HB0.out⟩
end Go.Proofs.YtbijfnbelkbofaaGreatDoor
