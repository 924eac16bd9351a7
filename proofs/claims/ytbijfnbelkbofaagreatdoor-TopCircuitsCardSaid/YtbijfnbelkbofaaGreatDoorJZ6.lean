/-
  Lemmas for the law TopCircuits.
-/
import Derived.Test.YtbijfnbelkbofaaGreatDoorJZ1
import Derived.Test.YtbijfnbelkbofaaGreatDoorJZ3
import Derived.BigQuiet
import Derived.Test.YtbijfnbelkbofaaGreatDoorJZ2
import Derived.Test.YtbijfnbelkbofaaGreatDoorProg
set_option linter.unusedSimpArgs false
set_option linter.unusedVariables false
namespace Go.Proofs.YtbijfnbelkbofaaGreatDoor
open Go.RowKit
theorem range_snoc (k:Nat):ints ((List.range (k+1)).map Int.ofNat)=ints ((List.range k).map Int.ofNat) ++ [.int .i64 (k:Int)]:=by simp [List.range_succ,ints]
set_option maxRecDepth 100000 in
set_option maxHeartbeats 2000000 in
theorem start_any (c:Circ) (GA OA:Option Addr) (gn gc on oc:Nat) (w:World) (hn:0≤c.inputs∧c.inputs≤1000):
 Calls Tryz.prog 81 #[.agg #[.int .i64 c.inputs,.slice GA gn gc,.slice OA on oc]] w fun e w'=>e=.returned (.pointer (some ⟨w.heap.size+1,0,none⟩))∧WkAt w' w.heap.size (w.heap.size+1) c.inputs (startW c.inputs)∧Below w.heap.size w w':=by
 obtain ⟨N,hN⟩:∃ N:Nat,c.inputs=(N:Int):=⟨c.inputs.toNat,by omega⟩
 have HN:=hiU hN;have hN1:N≤1000:=by omega
 rw [hN];clear hN hn;go_enter Tryz.func81,Tryz.ntmps81;go_wp2_with fail;obtain ⟨wa,hW9,RC,RK,hgr9⟩:=laid2 w [.int .i64 (N:Int),.slice GA gn gc,.slice OA on oc] 36 [.int .i64 (N:Int),.slice none 0 0,.slice none 0 0] 144;rewrite [hW9];clear hW9;have B_w:=hiD hgr9;clear hgr9
 go_loopg [4,11] N (fun gg _ s11 wr=>∃ (i:Nat) (v:Value),i≤N∧N - i≤gg∧s11=.int .i64 i∧Aside (Below w.heap.size w wr)∧Aside (Row wr (w.heap.size+1) 144 [.int .i64 (N:Int),.slice none 0 0,v])∧Aside (World.ownsRow wr w.heap.size 3 1 (v) (i) (ints ((List.range (i)).map Int.ofNat))))
 case atStart=>exact ⟨0,_,Nat.zero_le _,by omega,rfl,B_w.out,RK.out,World.ownsRow_nil _ _ _ _⟩
 case round=>
  clear RC RK B_w;obtain ⟨i,v,hi,hgg,rfl,BW,RK,OW⟩:=hrel;obtain ⟨TA,tc,rfl,_⟩:=Rd.own OW.out;have RK:Hid (Row wr (w.heap.size+1) 144 [.int .i64 (N:Int),.slice none 0 0,.slice TA i tc]):=RK.out;have hsz:=RK.out.lt;by_cases hlt:i < N
  ·have hlz:(i:Int) < (N:Int):=by omega
   obtain ⟨k0,k1,k2,kl⟩:=RK.out.cells3;have kf:=RK.out.frozen 2
   go_wp2_with (at_builtin;refine wpList_app rfl (.tmp 18) (.tmp 20) 22 rfl w.heap.size 3 (.int .i64 0) 1 8 Tryz.underlying22 int_infoZ rfl (by decide) (by decide) (.slice TA i tc) i (ints ((List.range i).map Int.ofNat)) rfl ?own (wr.heap.size+1) (some ⟨wr.heap.size,0,none⟩) 1 1 [.int .i64 (i:Int)] rfl ?rd ?one ?hb ?hbase ?_)
   case own=>exact OW.out.alloc _
   case rd=>exact Rd.lit wr #[.int .i64 (i:Int)] 3 (sz:=1) (m:=1) rfl
   case one=>first | (intro u hu;simp at hu;subst hu;rfl) | rfl
   case hb=>omega
   case hbase=>first | (simp;omega) | omega
   intro v' w5 hown' hgrow' hat';obtain ⟨TB,td,rfl,_⟩:=Rd.own hown';have RK5:Hid (Row w5 (w.heap.size+1) 144 [.int .i64 (N:Int),.slice none 0 0,.slice TA i tc]):=(RK.out.alloc _).grown hgrow' (fun e=>own_ne_row OW.out RK.out (by decide) e.symm)
   have OW5:Hid (World.ownsRow w5 w.heap.size 3 1 (.slice TB (i+1) td) (i+1) (ints ((List.range (i+1)).map Int.ofNat))):=(by show World.ownsRow _ _ _ _ _ _ _;rw [range_snoc];exact hown')
   have BW5:Hid (Below w.heap.size w w5):=(BW.out.alloc BW.out.size _).grown hgrow' (by simp;omega) (fun q hq=>(OW.out.lt q hq).1);clear hown' hgrow' hat' k0 k1 k2 kl kf RK OW BW;have k2:=RK5.out.cell 2;have kf:=RK5.out.frozen 2;have kl:=RK5.out.lt;simp only [List.getElem?_cons_zero,List.getElem?_cons_succ] at k2;go_wp2_with fail;go_roundg (N - (i+1))
   case measure=>omega
   case rel=>
    exact ⟨i+1,.slice TB (i+1) td,by omega,by omega,by go_num,BW5.out.setCell (p:=⟨(w.heap.size+1),2,none⟩) (by show _≤(w.heap.size+1);omega) _,RK5.out.set 2 _,own_set (p:=⟨(w.heap.size+1),2,none⟩) OW5.out RK5.out (by decide) _⟩
  ·have hlz:¬ (i:Int) < (N:Int):=by omega
   obtain rfl:N=i:=by omega
   go_wp2_with fail;go_ret;refine ⟨rfl,⟨_,_,RK.out,World.ownsRow_nil _ _ _ _,?_,Nat.le_succ _⟩,BW.out⟩;show World.ownsRow _ _ _ _ _ ((List.range (N:Int).toNat).map Int.ofNat).length (ints ((List.range (N:Int).toNat).map Int.ofNat));rw [Int.toNat_natCast,List.length_map,List.length_range];exact OW.out
theorem outs_snoc (tq:List Int) (l:List Int) (k:Nat) (h:k < l.length):ints ((l.take (k+1)).map (toAt tq))=ints ((l.take k).map (toAt tq)) ++ [.int .i64 (toAt tq (l.getD k 0))]:=by
 rw [List.take_succ_eq_append_getElem h,List.map_append,List.getD_eq_getElem?_getD,List.getElem?_eq_getElem h];simp [ints]
def CFrom (A:Option Addr) (n lo:Nat):Prop:=∀ ad,A=some ad→0 < n→lo≤ad.block
theorem CFrom.mono {A:Option Addr} {n lo lo':Nat} (h:CFrom A n lo) (hl:lo'≤lo):CFrom A n lo':=fun ad e hn=>Nat.le_trans hl (h ad e hn)
theorem CFrom.none {n lo:Nat}:CFrom none n lo:=fun ad e=>by cases e
theorem own_from {w:World} {base sz n m c:Nat} {e:TypeId} {A:Option Addr} {xs:List Value} (h:w.ownsRow base e sz (.slice A m c) n xs):CFrom A m base:=fun ad e hn=>by
 rcases h.2 with ⟨h2,_⟩ | ⟨g,cap,cur,h2,h3,_⟩
 ·simp only [Value.slice.injEq] at h2;rw [h2.1] at e
  cases e
 ·simp only [Value.slice.injEq] at h2;rw [h2.1] at e
  cases e
  exact h3
theorem Rd.farSet {w:World} {B sz n:Nat} {A:Option Addr} {xs:List Value} (h:Rd w B sz A n xs) {p:Addr} (hp:∀ ad,A=some ad→0 < n→ad.block≠p.block) (u:Value):Rd (w.setCell p u) B sz A n xs:=
 ⟨h.1,fun hn=>let ⟨a,e,hb,hc⟩:=h.2 hn;⟨a,e,hb,fun j v hv=>by
  rw [← hc j v hv];unfold World.cell?
  rw [Below.heap_setCell w p u _ (by rw [add_block];exact hp a e hn)]⟩⟩
theorem CAt.farSet {w:World} {c:Circ} {GA OA:Option Addr} {gn on:Nat} (h:CAt w c GA OA gn on) {p:Addr} (hG:∀ ad,GA=some ad→0 < gn→ad.block≠p.block) (hO:∀ ad,OA=some ad→0 < on→ad.block≠p.block) (u:Value):CAt (w.setCell p u) c GA OA gn on:=
 ⟨by rw [World.size_setCell];exact h.gates.farSet hG u,by rw [World.size_setCell];exact h.outs.farSet hO u,h.g63,h.o63⟩
theorem CFrom.ne {A:Option Addr} {n lo:Nat} (h:CFrom A n lo) {b:Nat} (hb:b < lo):∀ ad,A=some ad→0 < n→ad.block≠b:=fun ad e hn=>by have:=h ad e hn;omega
theorem Rd.low {w:World} {B sz n:Nat} {A:Option Addr} {xs:List Value} (h:Rd w B sz A n xs) {b:Nat} (hb:B≤b):∀ ad,A=some ad→0 < n→ad.block≠b:=fun ad e hn=>by
 obtain ⟨a,e2,h2,_⟩:=h.2 hn;rw [e] at e2
 cases e2
 omega
def CiPost (c:Circ) (lo:Nat) (w:World) (e:Ending) (w':World):Prop:=
 ∃ GA OA gn gc on oc,e=.returned (.agg #[.int .i64 c.inputs,.slice GA gn gc,.slice OA on oc])∧CAt w' c GA OA gn on∧CFrom GA gn lo∧CFrom OA on lo∧Below w.heap.size w w'
set_option maxRecDepth 100000 in
set_option maxHeartbeats 4000000 in
theorem done_any (B b:Nat) (n:Int) (s:Wk) (c:Circ) (GA OA:Option Addr) (gn gc on oc:Nat) (w:World) (h:WkAt w B b n s) (hB:B≤w.heap.size) (hc:CAt w c GA OA gn on) (hne:0 < s.tq.length∨on=0) (ht:s.tq.length≤30000) (hg:s.gates.length≤30000) (ho:on≤20000)
 (hout:∀ k,k < c.outs.length→0≤c.outs.getD k 0∧c.outs.getD k 0 < s.tq.length):
 Calls Tryz.prog 84 #[.pointer (some ⟨b,0,none⟩),.agg #[.int .i64 c.inputs,.slice GA gn gc,.slice OA on oc]] w (CiPost (doneW c s) B w):=by
 obtain ⟨KA,kc,TA,tc,hr,hog,hot,hBb⟩:=h.op;have hT:=Rd.of_own hot;have hG:=Rd.of_own hog;have HFK:Hid (CFrom KA s.gates.length B):=own_from hog;have hbl:=hr.lt;generalize htn:s.tq.length=tn at hr ht hne hout hT;have RLw:=hiD hr;have HG:=hiD hG;have HT:=hiD hT;have HC0:=hiD hc;have HOL:Hid (∀ _:Unit,c.outs.length=on):=fun _=>hc.ol
 have HOUT:Hid (∀ k,k < on→0≤c.outs.getD k 0∧c.outs.getD k 0 < tn):=fun k hk=>hout k (by rw [hc.ol];exact hk)
 clear hr hog hot hT hG htn hc hout h;go_enter Tryz.func84,Tryz.ntmps84;go_wp2_with fail;obtain ⟨wa,hW9,RC,RR,hgr9⟩:=laid2 w [.int .i64 c.inputs,.slice GA gn gc,.slice OA on oc] 36 [.int .i64 0,.slice none 0 0,.slice none 0 0] 36;rewrite [hW9];clear hW9;have B_w:=hiD hgr9;clear hgr9;have hsa:w.heap.size+1 < wa.heap.size:=RR.out.lt;have RLa:=hiD (rowCells RLw.out B_w.out);refine wp_region_L (fun w'=>Row w' w.heap.size 36 [.int .i64 c.inputs,.slice GA gn gc,.slice OA on oc]∧Row w' b 144 [.int .i64 n,.slice KA s.gates.length kc,.slice TA tn tc]) [8] (by kernel_rfl) (by exact ⟨RC.out.drew,RLa.out.drew⟩) (fun hHeld=>?_);have RCd:Hid (Row (World.drew wa) w.heap.size 36 [.int .i64 c.inputs,.slice GA gn gc,.slice OA on oc]):=RC.out.drew;have RRd:Hid (Row (World.drew wa) (w.heap.size+1) 36 [.int .i64 0,.slice none 0 0,.slice none 0 0]):=RR.out.drew;have RLd:Hid (Row (World.drew wa) b 144 [.int .i64 n,.slice KA s.gates.length kc,.slice TA tn tc]):=RLa.out.drew;have BWd:Hid (Below w.heap.size w (World.drew wa)):=B_w.out.drew;have hsd:w.heap.size+1 < (World.drew wa).heap.size:=hsa;clear RC RR RLa B_w hsa;revert hHeld RCd RRd RLd BWd hsd;generalize World.drew wa=wQ;intro hHeld RC RR RL BW hsq;refine lP 0 ?_;go_simp;refine lP 2 ?_;go_simp;refine lP 3 ?_;go_simp;refine lP 4 ?_;go_simp;refine lTakeW 1 ?va5 [[8]] rfl (by rfl) ?ya5 hHeld ?ra5
 case ya5=>
  intro w' hSw;have hSh:=hiD hSw.1;have hSp:=hiD hSw.2;clear hSw;obtain ⟨z0,z1,z2,zl⟩:=hSh.out.cells3;obtain ⟨y0,y1,y2,yl⟩:=hSp.out.cells3;go_simp
  try (with_reducible rfl)
 go_simp;refine lTakeW 5 ?va6 [[8]] rfl (by rfl) ?ya6 hHeld ?ra6
 case ya6=>
  intro w' hSw;have hSh:=hiD hSw.1;have hSp:=hiD hSw.2;clear hSw;obtain ⟨z0,z1,z2,zl⟩:=hSh.out.cells3;obtain ⟨y0,y1,y2,yl⟩:=hSp.out.cells3;go_simp
  try (with_reducible rfl)
 go_simp;refine lP 6 ?_;go_simp;refine restL_one (i:=7) (by kernel_rfl) rfl (fun K hK=>?_);go_simp;have RO:Hid (Row (World.alloc wQ (.cells #[.int .i64 0,.slice none 0 0,.slice none 0 0] 36)) wQ.heap.size 36 [.int .i64 0,.slice none 0 0,.slice none 0 0]):=Row.new wQ 36 [.int .i64 0,.slice none 0 0,.slice none 0 0];have RCb:Hid (Row (World.alloc wQ (.cells #[.int .i64 0,.slice none 0 0,.slice none 0 0] 36)) w.heap.size 36 [.int .i64 c.inputs,.slice GA gn gc,.slice OA on oc]):=RC.out.alloc _;have RRb:Hid (Row (World.alloc wQ (.cells #[.int .i64 0,.slice none 0 0,.slice none 0 0] 36)) (w.heap.size+1) 36 [.int .i64 0,.slice none 0 0,.slice none 0 0]):=RR.out.alloc _;have RLb:Hid (Row (World.alloc wQ (.cells #[.int .i64 0,.slice none 0 0,.slice none 0 0] 36)) b 144 [.int .i64 n,.slice KA s.gates.length kc,.slice TA tn tc]):=RL.out.alloc _;have BWb:Hid (Below w.heap.size w (World.alloc wQ (.cells #[.int .i64 0,.slice none 0 0,.slice none 0 0] 36))):=BW.out.alloc BW.out.size _;clear RC RR RL BW hHeld;revert RO RCb RRb RLb BWb;generalize (World.alloc wQ (.cells #[.int .i64 0,.slice none 0 0,.slice none 0 0] 36))=wB;intro RO RC RR RL BW;refine hK.out _ _ (fun _=>?keep) (fun hHeld=>?_)
 case keep=>exact ⟨RC.out,RL.out⟩
 have hHeld:=hHeld rfl;clear hK K
 try go_simp
 refine restL_one (i:=8) (by kernel_rfl) rfl (fun K hK=>?_);obtain ⟨q0,q1,q2,ql⟩:=RO.out.cells3;obtain ⟨qf0,qf1,qf2⟩:=RO.out.froz3;go_simp;refine hK.out _ _ (fun h=>absurd h (by decide)) (fun _=>?_);clear hK K
 try go_simp
 refine restL_done (by kernel_rfl) ?_ _;have ROc:Hid (Row (World.setCell (World.setCell (World.setCell wB ⟨wQ.heap.size,0,none⟩ (.int .i64 c.inputs)) ⟨wQ.heap.size,1,none⟩ (.slice KA s.gates.length kc)) ⟨wQ.heap.size,2,none⟩ (.slice none 0 0)) wQ.heap.size 36 [.int .i64 c.inputs,.slice KA s.gates.length kc,.slice none 0 0]):=((RO.out.set 0 _).set 1 _).set 2 _
 have RCc:Hid (Row (World.setCell (World.setCell (World.setCell wB ⟨wQ.heap.size,0,none⟩ (.int .i64 c.inputs)) ⟨wQ.heap.size,1,none⟩ (.slice KA s.gates.length kc)) ⟨wQ.heap.size,2,none⟩ (.slice none 0 0)) w.heap.size 36 [.int .i64 c.inputs,.slice GA gn gc,.slice OA on oc]):=(((RC.out.far (p:=⟨wQ.heap.size,0,none⟩) (by show _≠wQ.heap.size;omega) _).far (p:=⟨wQ.heap.size,1,none⟩) (by show _≠wQ.heap.size;omega) _).far (p:=⟨wQ.heap.size,2,none⟩) (by show _≠wQ.heap.size;omega) _)
 have RRc:Hid (Row (World.setCell (World.setCell (World.setCell wB ⟨wQ.heap.size,0,none⟩ (.int .i64 c.inputs)) ⟨wQ.heap.size,1,none⟩ (.slice KA s.gates.length kc)) ⟨wQ.heap.size,2,none⟩ (.slice none 0 0)) (w.heap.size+1) 36 [.int .i64 0,.slice none 0 0,.slice none 0 0]):=(((RR.out.far (p:=⟨wQ.heap.size,0,none⟩) (by show _≠wQ.heap.size;omega) _).far (p:=⟨wQ.heap.size,1,none⟩) (by show _≠wQ.heap.size;omega) _).far (p:=⟨wQ.heap.size,2,none⟩) (by show _≠wQ.heap.size;omega) _)
 have RLc:Hid (Row (World.setCell (World.setCell (World.setCell wB ⟨wQ.heap.size,0,none⟩ (.int .i64 c.inputs)) ⟨wQ.heap.size,1,none⟩ (.slice KA s.gates.length kc)) ⟨wQ.heap.size,2,none⟩ (.slice none 0 0)) b 144 [.int .i64 n,.slice KA s.gates.length kc,.slice TA tn tc]):=(((RL.out.far (p:=⟨wQ.heap.size,0,none⟩) (by show _≠wQ.heap.size;omega) _).far (p:=⟨wQ.heap.size,1,none⟩) (by show _≠wQ.heap.size;omega) _).far (p:=⟨wQ.heap.size,2,none⟩) (by show _≠wQ.heap.size;omega) _)
 have BWc:Hid (Below w.heap.size w (World.setCell (World.setCell (World.setCell wB ⟨wQ.heap.size,0,none⟩ (.int .i64 c.inputs)) ⟨wQ.heap.size,1,none⟩ (.slice KA s.gates.length kc)) ⟨wQ.heap.size,2,none⟩ (.slice none 0 0))):=(((BW.out.setCell (p:=⟨wQ.heap.size,0,none⟩) (by show _≤wQ.heap.size;omega) _).setCell (p:=⟨wQ.heap.size,1,none⟩) (by show _≤wQ.heap.size;omega) _).setCell (p:=⟨wQ.heap.size,2,none⟩) (by show _≤wQ.heap.size;omega) _)
 clear RO RC RR RL BW q0 q1 q2 ql qf0 qf1 qf2;revert ROc RCc RRc RLc BWc;generalize (World.setCell (World.setCell (World.setCell wB ⟨wQ.heap.size,0,none⟩ (.int .i64 c.inputs)) ⟨wQ.heap.size,1,none⟩ (.slice KA s.gates.length kc)) ⟨wQ.heap.size,2,none⟩ (.slice none 0 0))=wC;intro RO RC RR RL BW;obtain ⟨k0,k1,k2,kl⟩:=RC.out.cells3;go_wp2_with fail;clear k0 k1 k2 kl
 go_loopg [7,18] on (fun gg _ s18 wr=>∃ (k:Nat) (v:Value),k≤on∧on - k≤gg∧s18=.int .i64 k∧wQ.heap.size < wr.heap.size∧Aside (Below w.heap.size w wr)∧Aside (Row wr (w.heap.size+1) 36 [.int .i64 0,.slice none 0 0,.slice none 0 0])∧Aside (Row wr wQ.heap.size 36 [.int .i64 c.inputs,.slice KA s.gates.length kc,v])∧Aside (World.ownsRow wr w.heap.size 3 1 (v) (k) (ints ((c.outs.take (k)).map (toAt s.tq)))))
 case atStart=>exact ⟨0,_,Nat.zero_le _,by omega,rfl,RO.out.lt,BW.out,RR.out,RO.out,World.ownsRow_nil _ _ _ _⟩
 case round=>
  clear RO RC RR RL BW;obtain ⟨k,v,hk,hgg,rfl,hsz,BW,RR,RO,OW⟩:=hrel;obtain ⟨OB,oc2,rfl,_⟩:=Rd.own OW.out;have RO:Hid (Row wr wQ.heap.size 36 [.int .i64 c.inputs,.slice KA s.gates.length kc,.slice OB k oc2]):=RO.out;have RL:=hiD (rowCells RLw.out BW.out);by_cases hlt:k < on
  ·have hlz:(k:Int) < (on:Int):=by omega
   obtain ⟨oad,rfl,hob,ho0⟩:=(HC0.out.up BW.out).outs.int hlt;obtain ⟨o0,o1⟩:=HOUT.out k hlt
   obtain ⟨j,hj⟩:∃ j:Nat,c.outs.getD k 0=(j:Int):=⟨(c.outs.getD k 0).toNat,by omega⟩
   rw [hj] at ho0;have hjt:j < tn:=by omega
   obtain ⟨tad,rfl,htb,hcell⟩:=(HT.out.up BW.out).int hjt
   have HVS:Hid (∀ _:Unit,ints ((c.outs.take (k+1)).map (toAt s.tq))=ints ((c.outs.take k).map (toAt s.tq)) ++ [.int .i64 (s.tq.getD j 0)]):=fun _=>by
    rw [outs_snoc s.tq c.outs k (by rw [HOL.out ()];exact hlt),hj];rfl
   generalize s.tq.getD j 0=z at hcell HVS;have HCL:Hid (∀ W9,Below wr.heap.size wr W9→W9.cell? (tad.add j)=some (.int .i64 z)):=fun W9 h9=>(h9.cell (by rw [add_block];exact htb)).trans hcell
   have hi1:(j:Int) < (tn:Int):=by omega
   clear hj o0 o1 hcell htb;go_wp2_with fail;clear ho0 hob;refine wp_region_L (fun w'=>Row w' b 144 [.int .i64 n,.slice KA s.gates.length kc,.slice (some tad) tn tc]∧Row w' wQ.heap.size 36 [.int .i64 c.inputs,.slice KA s.gates.length kc,.slice OB k oc2]∧w'.cell? (tad.add j)=some (.int .i64 z)) [10,11,12] (by kernel_rfl) (by exact ⟨RL.out.drew,RO.out.drew,HCL.out _ (Below.refl _ _).drew⟩) (fun hHeld=>?_);have ROd:Hid (Row (World.drew wr) wQ.heap.size 36 [.int .i64 c.inputs,.slice KA s.gates.length kc,.slice OB k oc2]):=RO.out.drew;have RRd:Hid (Row (World.drew wr) (w.heap.size+1) 36 [.int .i64 0,.slice none 0 0,.slice none 0 0]):=RR.out.drew;have OWd:Hid (World.ownsRow (World.drew wr) w.heap.size 3 1 (.slice OB k oc2) (k) (ints ((c.outs.take (k)).map (toAt s.tq)))):=OW.out;have BWd:Hid (Below w.heap.size w (World.drew wr)):=BW.out.drew;have hsd:wQ.heap.size < (World.drew wr).heap.size:=hsz;have RLd:Hid (Row (World.drew wr) b 144 [.int .i64 n,.slice KA s.gates.length kc,.slice (some tad) tn tc]):=RL.out.drew;have HCd:Hid (∀ W9,Below (World.drew wr).heap.size (World.drew wr) W9→W9.cell? (tad.add j)=some (.int .i64 z)):=fun W9 h9=>HCL.out W9 (((Below.refl wr.heap.size wr).drew).trans h9)
   clear RO RR OW BW RL HCL;revert hHeld ROd RRd OWd BWd hsd RLd HCd;generalize World.drew wr=wD;intro hHeld RO RR OW BW hsd RL HCL;refine lP 0 ?_;go_simp;refine lP 2 ?_;go_simp;refine lP 3 ?_;go_simp;refine lP 4 ?_;go_simp;refine lP 6 ?_;go_simp;refine lTakeW 1 ?vb6 [[10],[11],[12]] rfl (by rfl) ?yb6 hHeld ?rb6
   case yb6=>
    intro w' hSw;have hSh:=hiD hSw.1;have hSp:=hiD hSw.2.1;have hSc:=hSw.2.2;clear hSw;obtain ⟨z0,z1,z2,zl⟩:=hSh.out.cells3;obtain ⟨y0,y1,y2,yl⟩:=hSp.out.cells3;go_simp
    try (with_reducible rfl)
   go_simp;refine lTakeW 5 ?vb7 [[10,9,8,7],[11],[12]] rfl (by rfl) ?yb7 hHeld ?rb7
   case yb7=>
    intro w' hSw;have hSh:=hiD hSw.1;have hSp:=hiD hSw.2.1;have hSc:=hSw.2.2;clear hSw;obtain ⟨z0,z1,z2,zl⟩:=hSh.out.cells3;obtain ⟨y0,y1,y2,yl⟩:=hSp.out.cells3;go_simp
    try (with_reducible rfl)
   go_simp;refine lTakeW 7 ?vb8 [[10,9,8],[11],[12]] rfl (by rfl) ?yb8 hHeld ?rb8
   case yb8=>
    intro w' hSw;have hSh:=hiD hSw.1;have hSp:=hiD hSw.2.1;have hSc:=hSw.2.2;clear hSw;obtain ⟨z0,z1,z2,zl⟩:=hSh.out.cells3;obtain ⟨y0,y1,y2,yl⟩:=hSp.out.cells3;go_simp
    try (with_reducible rfl)
   go_simp;refine lTakeW 8 ?vb9 [[10,9],[11],[12]] rfl (by rfl) ?yb9 hHeld ?rb9
   case yb9=>
    intro w' hSw;have hSh:=hiD hSw.1;have hSp:=hiD hSw.2.1;have hSc:=hSw.2.2;clear hSw;obtain ⟨z0,z1,z2,zl⟩:=hSh.out.cells3;obtain ⟨y0,y1,y2,yl⟩:=hSp.out.cells3;go_simp
    try (with_reducible rfl)
   go_simp;refine restL_one (i:=9) (by kernel_rfl) rfl (fun K hK=>?_);go_simp;refine hK.out _ _ (fun _=>?keep) (fun hHeld=>?_)
   case keep=>exact ⟨RL.out.alloc _,RO.out.alloc _,HCL.out _ ((Below.refl _ _).alloc (Nat.le_refl _) _)⟩
   have hHeld:=hHeld rfl;clear hK K
   try go_simp
   refine restL_one (i:=10) (by kernel_rfl) rfl (fun K hK=>?_);refine step_app rfl (.tmp 23) (.tmp 31) 22 rfl w.heap.size 3 (.int .i64 0) 1 8 Tryz.underlying22 int_infoZ rfl (by decide) (by decide) (.slice OB k oc2) k (ints ((c.outs.take k).map (toAt s.tq))) rfl ?own (wD.heap.size+1) (some ⟨wD.heap.size,0,none⟩) 1 1 [.int .i64 z] rfl ?rd ?one ?hb ?hbase ?_
   case own=>exact OW.out.alloc _
   case rd=>exact Rd.lit wD #[.int .i64 z] 3 (sz:=1) (m:=1) rfl
   case one=>first | (intro u hu;simp at hu;subst hu;rfl) | rfl
   case hb=>omega
   case hbase=>have:=BW.out.size;simp;omega
   intro v' w5 hown' hgrow' hat';obtain ⟨OC,od,rfl,_⟩:=Rd.own hown';have RO5:Hid (Row w5 wQ.heap.size 36 [.int .i64 c.inputs,.slice KA s.gates.length kc,.slice OB k oc2]):=(RO.out.alloc _).grown hgrow' (fun e=>own_ne_row OW.out RO.out (by decide) e.symm);have RR5:Hid (Row w5 (w.heap.size+1) 36 [.int .i64 0,.slice none 0 0,.slice none 0 0]):=(RR.out.alloc _).grown hgrow' (fun e=>own_ne_row OW.out RR.out (by decide) e.symm)
   have OW5:Hid (World.ownsRow w5 w.heap.size 3 1 (.slice OC (k+1) od) (k+1) (ints ((c.outs.take (k+1)).map (toAt s.tq)))):=(by show World.ownsRow _ _ _ _ _ _ _;rw [HVS.out ()];exact hown')
   have BW5:Hid (Below w.heap.size w w5):=(BW.out.alloc BW.out.size _).grown hgrow' (by have:=BW.out.size;simp;omega) (fun q hq=>(OW.out.lt q hq).1);have hs5:wQ.heap.size < w5.heap.size:=Nat.lt_of_lt_of_le hsd (Nat.le_trans (by simp) hgrow'.size);have q2:=RO5.out.cell 2;have qf:=RO5.out.frozen 2;have ql:=RO5.out.lt;simp only [List.getElem?_cons_zero,List.getElem?_cons_succ] at q2;clear hown' hgrow' hat' RO RR OW BW hsd RL HCL hHeld;refine hK.out _ _ (fun h=>absurd h (by decide)) (fun _=>?_);clear hK K
   try go_simp
   refine lP 11 ?_;go_simp;refine restL_one (i:=12) (by kernel_rfl) rfl (fun K hK=>?_);go_simp;refine hK.out _ _ (fun h=>absurd h (by decide)) (fun _=>?_);clear hK K
   try go_simp
   refine restL_done (by kernel_rfl) ?_ _;go_wp2_with fail;go_roundg (on - (k+1))
   case measure=>omega
   case rel=>
    exact ⟨k+1,.slice OC (k+1) od,by omega,by omega,by go_num,by rw [World.size_setCell];exact hs5,BW5.out.setCell (p:=⟨wQ.heap.size,2,none⟩) (by show _≤wQ.heap.size;omega) _,RR5.out.far (p:=⟨wQ.heap.size,2,none⟩) (by show _≠wQ.heap.size;omega) _,RO5.out.set 2 _,own_set (p:=⟨wQ.heap.size,2,none⟩) OW5.out RO5.out (by decide) _⟩
  ·have hlz:¬ (k:Int) < (on:Int):=by omega
   obtain rfl:on=k:=by omega
   obtain ⟨q0,q1,q2,ql⟩:=RO.out.cells3;obtain ⟨z0,z1,z2,zl⟩:=RR.out.cells3;obtain ⟨zf0,zf1,zf2⟩:=RR.out.froz3;go_wp2;have Z9:=RR.out.set3 (.int .i64 c.inputs) (.slice KA s.gates.length kc) (.slice OB on oc2);have B9:=bSet3 BW.out (w.heap.size+1) (by show _≤(w.heap.size+1);omega) (.int .i64 c.inputs) (.slice KA s.gates.length kc) (.slice OB on oc2)
   have O9:=(own_set (p:=⟨(w.heap.size+1),2,none⟩) (own_set (p:=⟨(w.heap.size+1),1,none⟩) (own_set (p:=⟨(w.heap.size+1),0,none⟩) OW.out RR.out (by decide) (.int .i64 c.inputs)) (Row.set RR.out 0 (.int .i64 c.inputs)) (by decide) (.slice KA s.gates.length kc)) (Row.set (Row.set RR.out 0 (.int .i64 c.inputs)) 1 (.slice KA s.gates.length kc)) (by decide) (.slice OB on oc2))
   obtain ⟨d0,d1,d2,-⟩:=Z9.cells3;clear Z9;refine bodyPost_ret (v:=.agg #[.int .i64 c.inputs,.slice KA s.gates.length kc,.slice OB on oc2]) (by simp [results,Tryz.results84,go_sem,d0,d1,d2]) rfl ?_
   have e1:(doneW c s).outs=(c.outs.take on).map (toAt s.tq):=by
    show c.outs.map (toAt s.tq)=_;rw [List.take_of_length_le (by rw [HOL.out ()];exact Nat.le_refl _)]
   exact ⟨KA,OB,s.gates.length,kc,on,oc2,rfl,⟨HG.out.up B9,by rw [e1];exact Rd.of_own O9,by unfold maxLen;omega,by unfold maxLen;omega⟩,HFK.out,(own_from O9).mono hB,B9⟩
end Go.Proofs.YtbijfnbelkbofaaGreatDoor
namespace Go.Proofs.YtbijfnbelkbofaaGreatDoor
open Go.RowKit
theorem gateOk_mk {lim:Int} {g:Gt} (ho:g.op=0∨g.op=1∨g.op=2∨g.op=3∨g.op=4∨g.op=5) (ha:2≤g.op→0≤g.a∧g.a < lim) (hb:3≤g.op→0≤g.b∧g.b < lim) (ha0:g.op < 2→g.a=0) (hb0:g.op < 3→g.b=0):gateOk lim g=true:=by
 have hop:operandsF g.op=if g.op < 2 then 0 else if g.op < 3 then 1 else 2:=by
  rcases ho with e | e | e | e | e | e <;> rw [e] <;> rfl
 simp only [gateOk,wireOk,Bool.and_eq_true,decide_eq_true_eq];rw [hop];refine ⟨⟨?_,?_⟩,?_⟩
 ·split <;> (try split) <;> omega
 ·split
  ·rename_i h;have:=ha0 h;omega
  ·rename_i h;have:=ha (by omega);split <;> omega
 ·split
  ·rename_i h;have:=hb0 (by omega);omega
  ·split
   ·rename_i h;have:=hb0 (by omega);omega
   ·rename_i h;have:=hb (by omega);omega
theorem operandsO_of {op:Int} (ho:op=0∨op=1∨op=2∨op=3∨op=4∨op=5):operandsO op=if op < 2 then 0 else if op < 3 then 1 else 2:=by
 rcases ho with e | e | e | e | e | e <;> rw [e] <;> rfl
def GsOk (n:Int) (gs:List Gt):Prop:=∀ i,i < gs.length→gateOk (n+(i:Int)) (gs.getD i default)=true
theorem GsOk.snoc {n:Int} {gs:List Gt} {g:Gt} (h:GsOk n gs) (hg:gateOk (n+(gs.length:Int)) g=true):GsOk n (gs ++ [g]):=by
 intro i hi;rw [List.length_append,List.length_singleton] at hi;rcases Nat.lt_or_ge i gs.length with h1 | h1
 ·rw [List.getD_eq_getElem?_getD,List.getElem?_append_left h1,← List.getD_eq_getElem?_getD];exact h i h1
 ·obtain rfl:i=gs.length:=by omega
  rw [List.getD_eq_getElem?_getD,List.getElem?_append_right (Nat.le_refl _),Nat.sub_self];exact hg
theorem snocZ_lt {α:Type} (l:List α) (x d:α) {i:Nat} (h:i < l.length):(l ++ [x]).getD i d=l.getD i d:=by
 rw [List.getD_eq_getElem?_getD,List.getElem?_append_left h,← List.getD_eq_getElem?_getD]
theorem snocZ_eq {α:Type} (l:List α) (x d:α):(l ++ [x]).getD l.length d=x:=by
 rw [List.getD_eq_getElem?_getD,List.getElem?_append_right (Nat.le_refl _),Nat.sub_self];rfl
theorem isW_gate {n:Int} {gs:List Gt} {w op:Int} (h:isW n gs w op=true) (hw:w < n+(gs.length:Int)):∃ j:Nat,w=n+(j:Int)∧j < gs.length∧(gs.getD j default).op=op∧argW n gs w=(gs.getD j default).a:=by
 unfold isW at h;rw [Bool.and_eq_true,decide_eq_true_iff,decide_eq_true_iff] at h;exact ⟨(w - n).toNat,by omega,by omega,h.2,rfl⟩
theorem argW_ok {n:Int} {gs:List Gt} (hs:GsOk n gs) {w:Int} (h:isW n gs w 2=true) (hw:w < n+(gs.length:Int)):0≤argW n gs w∧argW n gs w < w:=by
 obtain ⟨j,rfl,hj,ho,ha⟩:=isW_gate h hw;have:=(gateOk_parts (hs j hj)).2.1 (by omega);rw [ha];omega
theorem const_ok {lim:Int} (o:Int) (ho:o=0∨o=1):gateOk lim ⟨o,0,0⟩=true:=by
 refine gateOk_mk (ho.elim .inl (fun h=>.inr (.inl h))) (fun h=>?_) (fun h=>?_) (fun _=>rfl) (fun _=>rfl)
 ·have h:2≤o:=h;omega
 ·have h:3≤o:=h;omega
theorem nott_ok {lim a:Int} (ha:0≤a∧a < lim):gateOk lim ⟨2,a,0⟩=true:=by
 refine gateOk_mk (.inr (.inr (.inl rfl))) (fun _=>ha) (fun h=>?_) (fun h=>?_) (fun _=>rfl)
 ·have h:(3:Int)≤2:=h;omega
 ·have h:(2:Int) < 2:=h;omega
theorem notF_ok {n:Int} {gs:List Gt} (hs:GsOk n gs) {a:Int} (ha:0≤a∧a < n+(gs.length:Int)):gateOk (n+(gs.length:Int)) (notF n gs a).1=true∧-1≤(notF n gs a).2∧(notF n gs a).2 < n+(gs.length:Int):=by
 have hm:(-1:Int) < n+(gs.length:Int):=by omega
 have h1:(-1:Int)≤-1:=by omega
 unfold notF;split
 ·exact ⟨const_ok 1 (.inr rfl),h1,hm⟩
 ·split
  ·exact ⟨const_ok 0 (.inl rfl),h1,hm⟩
  ·split
   ·rename_i h
    have:=argW_ok hs h ha.2;exact ⟨nott_ok ha,by show -1≤argW n gs a;omega,by show argW n gs a < _;omega⟩
   ·exact ⟨nott_ok ha,h1,hm⟩
theorem foldG_ok {n:Int} {gs:List Gt} (hs:GsOk n gs) {g:Gt} (hn:0≤n) (hg:gateOk (n+(gs.length:Int)) g=true):gateOk (n+(gs.length:Int)) (foldG n gs g).1=true∧-1≤(foldG n gs g).2∧(foldG n gs g).2 < n+(gs.length:Int):=by
 obtain ⟨ho,ha,hb,ha0,hb0⟩:=gateOk_parts hg;have hc:=fun o ho=>const_ok (lim:=n+(gs.length:Int)) o ho
 have hd:(-1:Int)≤-1:=by omega
 have hm:(-1:Int) < n+(gs.length:Int):=by omega
 have heither:∀ ab ne:Int,(ab=0∨ab=1)→3≤g.op→gateOk (n+(gs.length:Int)) (eitherF n gs g ab ne).1=true∧-1≤(eitherF n gs g ab ne).2∧(eitherF n gs g ab ne).2 < n+(gs.length:Int):=fun ab ne hab h3=>by
  have h1:=ha (by omega);have h2:=hb h3;unfold eitherF;split
  ·exact ⟨hc ab hab,hd,hm⟩
  ·split
   ·exact ⟨hg,by show -1≤g.b;omega,h2.2⟩
   ·split
    ·exact ⟨hg,by show -1≤g.a;omega,h1.2⟩
    ·split
     ·exact ⟨hc ab hab,hd,hm⟩
     ·exact ⟨hg,hd,hm⟩
 unfold foldG;split
 ·rename_i h
  exact notF_ok hs (ha (by omega))
 ·split
  ·exact heither 0 1 (.inl rfl) (by omega)
  ·split
   ·exact heither 1 0 (.inr rfl) (by omega)
   ·split
    ·have h1:=ha (by omega);have h2:=hb (by omega);unfold xorF;split
     ·exact ⟨hg,by show -1≤g.b;omega,h2.2⟩
     ·split
      ·exact ⟨hg,by show -1≤g.a;omega,h1.2⟩
      ·split
       ·exact ⟨hc 0 (.inl rfl),hd,hm⟩
       ·split
        ·exact ⟨hc 1 (.inr rfl),hd,hm⟩
        ·split
         ·exact notF_ok hs h2
         ·split
          ·exact notF_ok hs h1
          ·exact ⟨hg,hd,hm⟩
    ·exact ⟨hg,hd,hm⟩
structure WkOk (n:Int) (P:Nat→Prop) (s:Wk):Prop where
 gok:GsOk n s.gates
 tok:∀ w,w < s.tq.length→P w→0≤s.tq.getD w 0∧s.tq.getD w 0 < n+(s.gates.length:Int)
theorem startOk {n:Int} (hn:0≤n) (P:Nat→Prop):WkOk n P (startW n):=
 ⟨fun i hi=>absurd hi (Nat.not_lt_zero _),fun w hw _=>by
  have hw':w < n.toNat:=by simpa [startW] using hw
  have e:(startW n).tq.getD w 0=(w:Int):=by simp [startW,List.getD_eq_getElem?_getD,List.getElem?_map,List.getElem?_range hw']
  rw [e]
  show 0≤(w:Int)∧(w:Int) < n+((0:Nat):Int)
  omega⟩
theorem moveG_ok {n lim:Int} {P:Nat→Prop} {s:Wk} (h:WkOk n P s) {g:Gt} (hg:gateOk lim g=true) (hl:lim≤(s.tq.length:Int)) (hPa:2≤g.op→P g.a.toNat) (hPb:3≤g.op→P g.b.toNat):gateOk (n+(s.gates.length:Int)) (moveG s.tq g)=true:=by
 obtain ⟨ho,ha,hb,ha0,hb0⟩:=gateOk_parts hg;have hop:=operandsO_of ho;refine gateOk_mk ho (fun h2=>?_) (fun h3=>?_) (fun h2=>?_) (fun h3=>?_)
 ·have h2:2≤g.op:=h2;have:=ha h2;show 0≤(if 1≤operandsO g.op then toAt s.tq g.a else g.a)∧_;have e:(moveG s.tq g).a=toAt s.tq g.a:=by show (if _ then _ else _)=_;rw [if_pos (by rw [hop,if_neg (by omega)];split <;> omega)]
  rw [e];have e2:(if 1≤operandsO g.op then toAt s.tq g.a else g.a)=toAt s.tq g.a:=e;rw [e2];exact h.tok _ (by omega) (hPa h2)
 ·have h3:3≤g.op:=h3;have:=hb h3;have e:(moveG s.tq g).b=toAt s.tq g.b:=by show (if _ then _ else _)=_;rw [if_pos (by rw [hop,if_neg (by omega),if_neg (by omega)])]
  rw [e];exact h.tok _ (by omega) (hPb h3)
 ·have h2:g.op < 2:=h2;have e:(moveG s.tq g).a=g.a:=by show (if _ then _ else _)=_;rw [if_neg (by rw [hop,if_pos h2];omega)]
  rw [e];exact ha0 h2
 ·have h3:g.op < 3:=h3;have e:(moveG s.tq g).b=g.b:=by show (if _ then _ else _)=_;rw [if_neg (by rw [hop];split <;> (try split) <;> omega)]
  rw [e];exact hb0 h3
theorem WkOk.add {n:Int} {P Q:Nat→Prop} {s:Wk} (h:WkOk n P s) {p:Gt × Int} (hg:gateOk (n+(s.gates.length:Int)) p.1=true) (hp:-1≤p.2∧p.2 < n+(s.gates.length:Int)) (hn:0≤n) (hQ:∀ w,w < s.tq.length→Q w→P w):WkOk n Q (addW n s p):=by
 refine ⟨h.gok.snoc hg,fun w hw hq=>?_⟩;have e1:((addW n s p).gates.length:Int)=(s.gates.length:Int)+1:=by rw [(addW_len n s p).1];omega
 rw [e1];rw [(addW_len n s p).2] at hw;rcases Nat.lt_or_ge w s.tq.length with h1 | h1
 ·rw [show (addW n s p).tq.getD w 0=s.tq.getD w 0 from snocZ_lt _ _ _ h1];have:=h.tok w h1 (hQ w h1 hq);omega
 ·obtain rfl:w=s.tq.length:=by omega
  rw [show (addW n s p).tq.getD s.tq.length 0=_ from snocZ_eq _ _ _];split <;> omega
theorem gateAt_ok {c:Circ} (h:rightC c=true) {k:Nat} (hk:k < c.gates.length):gateOk (c.inputs+(k:Int)) (gateAt c k)=true:=(rightC_parts h).2.1 k hk
theorem foldTo_ok {c:Circ} (h:rightC c=true) (k:Nat) (hk:k≤c.gates.length):WkOk c.inputs (fun _=>True) (foldTo c k):=by
 obtain ⟨⟨h0,h1,_⟩,_⟩:=rightC_parts h
 induction k with
 | zero=>exact startOk h0 _
 | succ k ih=>
  have hs:=ih (by omega);obtain ⟨l1,l2⟩:=foldTo_len c k;have hm:=moveG_ok hs (gateAt_ok h (show k < c.gates.length by omega)) (by omega) (fun _=>trivial) (fun _=>trivial);obtain ⟨f1,f2,f3⟩:=foldG_ok hs.gok h0 hm;rw [foldTo];exact hs.add f1 ⟨f2,f3⟩ h0 (fun _ _ _=>trivial)
theorem done_ok {c:Circ} {P:Nat→Prop} {s:Wk} (h:rightC c=true) (hs:WkOk c.inputs P s) (hl:(s.tq.length:Int)=c.inputs+(c.gates.length:Int)) (hg:s.gates.length≤c.gates.length) (hP:∀ k,k < c.outs.length→P (c.outs.getD k 0).toNat):rightC (doneW c s)=true:=by
 obtain ⟨⟨h0,h1,h2,h3⟩,hg2,ho⟩:=rightC_parts h;refine (right_true_gates (doneW c s) ⟨h0,h1,by show s.gates.length≤_;omega,by show (c.outs.map _).length≤_;simpa using h3⟩ (fun k hk=>hs.gok k hk)).trans ?_;refine all_true_at _ _ (fun k hk=>?_);have hk':k < c.outs.length:=by simpa [doneW] using hk
 have e:(doneW c s).outs.getD k 0=toAt s.tq (c.outs.getD k 0):=by
  simp [doneW,List.getD_eq_getElem?_getD,List.getElem?_map,List.getElem?_eq_getElem hk']
 have hb:=outOk_at ho hk';rw [e];have:=hs.tok (c.outs.getD k 0).toNat (by omega) (hP k hk');exact decide_eq_true this
theorem fold_right {c:Circ} (h:rightC c=true):rightC (foldC c)=true:=by
 rw [foldC,if_pos h];obtain ⟨⟨h0,h1,_⟩,_⟩:=rightC_parts h;obtain ⟨l1,l2⟩:=foldTo_len c c.gates.length;exact done_ok h (foldTo_ok h _ (Nat.le_refl _)) (by omega) (by omega) (fun _ _=>trivial)
theorem swapG_ok {lim:Int} {g:Gt} (hg:gateOk lim g=true):gateOk lim (swapG g)=true:=by
 unfold swapG;split
 ·rename_i h
  obtain ⟨ho,ha,hb,ha0,hb0⟩:=gateOk_parts hg;have hop:=operandsO_of ho
  have h3:3≤g.op:=by
   have:=h.1;rw [hop] at this;split at this <;> (try split at this) <;> omega
  exact gateOk_mk ho (fun _=>hb h3) (fun _=>ha (by omega)) (fun h=>by have h:g.op < 2:=h;omega) (fun h=>by have h:g.op < 3:=h;omega)
 ·exact hg
theorem knownW_bd (n:Int) (gs:List Gt) (g:Gt) (hn:0≤n):-1≤knownW n gs g∧knownW n gs g < n+(gs.length:Int):=by
 unfold knownW;split
 ·rename_i k hk
  have:=(List.findIdx?_eq_some_iff_getElem.1 hk).1;omega
 ·omega
theorem shareTo_ok {c:Circ} (h:rightC c=true) (k:Nat) (hk:k≤c.gates.length):WkOk c.inputs (fun _=>True) (shareTo c k):=by
 obtain ⟨⟨h0,h1,_⟩,_⟩:=rightC_parts h
 induction k with
 | zero=>exact startOk h0 _
 | succ k ih=>
  have hs:=ih (by omega);obtain ⟨l1,l2⟩:=shareTo_len c k;have hm:=moveG_ok hs (gateAt_ok h (show k < c.gates.length by omega)) (by omega) (fun _=>trivial) (fun _=>trivial);rw [shareTo];exact hs.add (swapG_ok hm) (knownW_bd _ _ _ h0) h0 (fun _ _ _=>trivial)
theorem share_right {c:Circ} (h:rightC c=true):rightC (shareC c)=true:=by
 rw [shareC,if_pos h];obtain ⟨⟨h0,h1,_⟩,_⟩:=rightC_parts h;obtain ⟨l1,l2⟩:=shareTo_len c c.gates.length;exact done_ok h (shareTo_ok h _ (Nat.le_refl _)) (by omega) (by omega) (fun _ _=>trivial)
end Go.Proofs.YtbijfnbelkbofaaGreatDoor
namespace Go.Proofs.YtbijfnbelkbofaaGreatDoor
open Go.RowKit
def PredInts (P:Program) (g:Nat) (lb:Array Value) (p:Int→Bool) (zs:List Int) (w:World):Prop:=
 ∀ (W:World) (x:Int),x ∈ zs→Below w.heap.size w W→Calls P g (#[.int .i64 x] ++ lb) W fun e w'=>e=.returned (.bool (p x))∧Below w.heap.size w w'
def findI (p:Int→Bool) (zs:List Int):Int:=match zs.findIdx? p with | some i=>i | none=>-1
theorem findI_hit (p:Int→Bool) (zs:List Int) (k:Nat) (hk:k < zs.length) (hp:p (zs.getD k 0)=true) (hno:∀ j,j < k→p (zs.getD j 0)=false):findI p zs=k:=by
 have hg:zs.getD k 0=zs[k]:=by simp [List.getD_eq_getElem?_getD,List.getElem?_eq_getElem hk]
 have:zs.findIdx? p=some k:=by
  rw [List.findIdx?_eq_some_iff_getElem];refine ⟨hk,by rw [← hg];exact hp,fun j hj=>?_⟩;have:=hno j hj
  simp [List.getD_eq_getElem?_getD,List.getElem?_eq_getElem (show j < zs.length by omega)] at this
  simp [this]
 simp [findI,this]
theorem findI_miss (p:Int→Bool) (zs:List Int) (hno:∀ j,j < zs.length→p (zs.getD j 0)=false):findI p zs=-1:=by
 have:zs.findIdx? p=none:=by
  rw [List.findIdx?_eq_none_iff];intro x hx;obtain ⟨j,hj,rfl⟩:=List.getElem_of_mem hx;have:=hno j hj
  simpa [List.getD_eq_getElem?_getD,List.getElem?_eq_getElem hj] using this
 simp [findI,this]
theorem findI_nonneg (p:Int→Bool) (zs:List Int):decide (0≤findI p zs)=zs.any p:=by
 unfold findI
 cases h:zs.findIdx? p with
 | none=>rw [List.findIdx?_eq_none_iff] at h;simp;intro x hx;simpa using h x hx
 | some i=>
  rw [List.findIdx?_eq_some_iff_getElem] at h;obtain ⟨hi,hp,_⟩:=h
  simp
  exact ⟨_,List.getElem_mem hi,hp⟩
set_option maxHeartbeats 400000 in
theorem indexFunc_ints (A:Option Addr) (n c:Nat) (zs:List Int) (g:Nat) (lb:Array Value) (p:Int→Bool) (w:World)
 (eg:∀ args w,(callFunc g args).run Tryz.prog w=.ok (.enter g args) w)
 (hr:Rd w w.heap.size 1 A n (ints zs)) (hbig:n≤9223372036854775807) (hp:PredInts Tryz.prog g lb p zs w):
 Calls Tryz.prog 73 #[.slice A n c,.func (.func g) #[] lb] w fun e w'=>e=.returned (.int .i64 (findI p zs))∧Below w.heap.size w w':=by
 have hl:zs.length=n:=by have:=hr.1;simpa using this
 have HL:=hiD hl;have HR:=hiD hr;have HP:=hiD hp;clear hl hr hp;go_enter Tryz.func73,Tryz.ntmps73;go_wp2
 go_loopg [5,8] n (fun gg _ s8 wr=>∃ kk:Nat,kk≤n∧n - kk≤gg∧s8=.int .i64 kk∧Aside (Below w.heap.size w wr)∧Aside (∀ j,j < kk→p (zs.getD j 0)=false))
 case atStart=>exact ⟨0,Nat.zero_le _,by omega,rfl,Below.refl _ w,fun j hj=>absurd hj (Nat.not_lt_zero _)⟩
 case round=>
  obtain ⟨kk,hkk,hg,rfl,BW,AA⟩:=hrel;by_cases hlt:kk < n
  ·have hltz:(kk:Int) < (n:Int):=by omega
   obtain ⟨ad,rfl,hb,hcell0⟩:=HR.out.int hlt;have hcell:wr.cell? (ad.add kk)=some (.int .i64 (zs.getD kk 0)):=(BW.out.cell (by rw [add_block];exact hb)).trans hcell0;clear hcell0;have hcall:=HP.out wr (zs.getD kk 0) (by rw [List.getD_eq_getElem?_getD,List.getElem?_eq_getElem (by rw [HL.out];exact hlt)];exact List.getElem_mem _) BW.out;generalize hy:zs.getD kk 0=y at hcell hcall;have HY:Aside (zs.getD kk 0=y):=hy;clear hy
   cases hq:p y with
   | true=>
    rw [hq] at hcall;go_wp2_with fail;refine hcall.mono ?_;rintro e w' ⟨rfl,hb'⟩;go_wp2;go_ret;refine ⟨?_,hb'⟩;rw [findI_hit p zs kk (by rw [HL.out];exact hlt) (by rw [HY.out];exact hq) AA.out];rfl
   | false=>
    rw [hq] at hcall;go_wp2_with fail;refine hcall.mono ?_;rintro e w' ⟨rfl,hb'⟩;go_wp2;go_roundg (n - (kk+1))
    case measure=>omega
    case rel=>
     refine ⟨kk+1,by omega,by omega,by go_num,hb',(show Aside _ from fun j hj=>?_)⟩;by_cases e:j=kk
     ·subst e;rw [HY.out];exact hq
     ·exact AA.out j (by omega)
  ·have hltz:¬ (kk:Int) < (n:Int):=by omega
   have:kk=n:=by omega
   subst this;go_wp2;go_ret;refine ⟨?_,BW.out⟩;rw [findI_miss p zs (fun j hj=>AA.out j (by rw [HL.out] at hj;exact hj))];rfl
theorem containsFunc_ints (A:Option Addr) (n c:Nat) (zs:List Int) (g:Nat) (lb:Array Value) (p:Int→Bool) (w:World)
 (eg:∀ args w,(callFunc g args).run Tryz.prog w=.ok (.enter g args) w)
 (hr:Rd w w.heap.size 1 A n (ints zs)) (hbig:n≤9223372036854775807) (hp:PredInts Tryz.prog g lb p zs w):
 Calls Tryz.prog 24 #[.slice A n c,.func (.func g) #[] lb] w fun e w'=>e=.returned (.bool (zs.any p))∧Below w.heap.size w w':=by
 rw [← findI_nonneg];go_enter Tryz.func24,Tryz.ntmps24
 go_wp2_with (go_at_call 73;refine (indexFunc_ints A n c zs g lb p _ eg hr hbig hp).mono ?_;rintro e w' ⟨rfl,hb'⟩)
 go_ret;exact ⟨rfl,hb'⟩
end Go.Proofs.YtbijfnbelkbofaaGreatDoor
