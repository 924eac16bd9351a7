/-
 A part.
-/
import Derived.Test.YtiemhbogbaamlaaYF1
import Derived.Test.YtiemhbogbaamlaaYF8
import Derived.Test.YtiemhbogbaamlaaYF3
import Derived.BigQuiet
import Derived.Test.YtiemhbogbaamlaaProg
import Derived.Test.YtiemhbogbaamlaaYF2
set_option linter.unusedSimpArgs false
set_option linter.unusedVariables false
namespace Go.Proofs.Ytiemhbogbaamlaa
open Go.RowKit
theorem range_snoc (k:Nat):ints ((List.range (k+1)).map Int.ofNat)=ints ((List.range k).map Int.ofNat) ++ [.int .i64 (k:Int)]:=by simp [List.range_succ,ints]
set_option maxRecDepth 100000 in
set_option maxHeartbeats 2000000 in
theorem start_any (c:Circ) (GA OA:Option Addr) (gn gc on oc:Nat) (w:World) (hn:0≤c.inputs∧c.inputs≤1000):
 Calls Try.prog 85 #[.agg #[.int .i64 c.inputs,.slice GA gn gc,.slice OA on oc]] w fun e w'=>e=.returned (.pointer (some ⟨w.heap.size+1,0,none⟩))∧WkAt w' w.heap.size (w.heap.size+1) c.inputs (startW c.inputs)∧Below w.heap.size w w':=by
 obtain ⟨N,hN⟩:∃ N:Nat,c.inputs=(N:Int):=⟨c.inputs.toNat,by omega⟩
 have HN:=hiU hN
 have hN1:N≤1000:=by omega
 rw [hN]
 clear hN hn
 go_enter Try.func85,Try.ntmps85
 go_wp2_with fail
 obtain ⟨wa,hW9,RC,RK,hgr9⟩:=laid2 w [.int .i64 (N:Int),.slice GA gn gc,.slice OA on oc] 37 [.int .i64 (N:Int),.slice none 0 0,.slice none 0 0] 115
 rewrite [hW9]
 clear hW9
 have B_w:=hiD hgr9
 clear hgr9
 go_loopg [4,11] N (fun gg _ s11 wr=>∃ (i:Nat) (v:Value),i≤N∧N - i≤gg∧s11=.int .i64 i∧Aside (Below w.heap.size w wr)∧Aside (Row wr (w.heap.size+1) 115 [.int .i64 (N:Int),.slice none 0 0,v])∧Aside (World.ownsRow wr w.heap.size 3 1 (v) (i) (ints ((List.range (i)).map Int.ofNat))))
 case atStart=>exact ⟨0,_,Nat.zero_le _,by omega,rfl,B_w.out,RK.out,World.ownsRow_nil _ _ _ _⟩
 case round=>
  clear RC RK B_w
  obtain ⟨i,v,hi,hgg,rfl,BW,RK,OW⟩:=hrel
  obtain ⟨TA,tc,rfl,_⟩:=Rd.own OW.out
  have RK:Hid (Row wr (w.heap.size+1) 115 [.int .i64 (N:Int),.slice none 0 0,.slice TA i tc]):=RK.out
  have hsz:=RK.out.lt
  by_cases hlt:i < N
  ·have hlz:(i:Int) < (N:Int):=by omega
   obtain ⟨k0,k1,k2,kl⟩:=RK.out.cells3
   have kf:=RK.out.frozen 2
   go_wp2_with (at_builtin;refine wpList_app rfl (.tmp 18) (.tmp 20) 35 rfl w.heap.size 3 (.int .i64 0) 1 8 Try.underlying35 int_infoZ rfl (by decide) (by decide) (.slice TA i tc) i (ints ((List.range i).map Int.ofNat)) rfl ?own (wr.heap.size+1) (some ⟨wr.heap.size,0,none⟩) 1 1 [.int .i64 (i:Int)] rfl ?rd ?one ?hb ?hbase ?_)
   case own=>exact OW.out.alloc _
   case rd=>exact Rd.lit wr #[.int .i64 (i:Int)] 3 (sz:=1) (m:=1) rfl
   case one=>first | (intro u hu;simp at hu;subst hu;rfl) | rfl
   case hb=>omega
   case hbase=>first | (simp;omega) | omega
   intro v' w5 hown' hgrow' hat'
   obtain ⟨TB,td,rfl,_⟩:=Rd.own hown'
   have RK5:Hid (Row w5 (w.heap.size+1) 115 [.int .i64 (N:Int),.slice none 0 0,.slice TA i tc]):=(RK.out.alloc _).grown hgrow' (fun e=>own_ne_row OW.out RK.out (by decide) e.symm)
   have OW5:Hid (World.ownsRow w5 w.heap.size 3 1 (.slice TB (i+1) td) (i+1) (ints ((List.range (i+1)).map Int.ofNat))):=(by show World.ownsRow _ _ _ _ _ _ _;rw [range_snoc];exact hown')
   have BW5:Hid (Below w.heap.size w w5):=(BW.out.alloc BW.out.size _).grown hgrow' (by simp;omega) (fun q hq=>(OW.out.lt q hq).1)
   clear hown' hgrow' hat' k0 k1 k2 kl kf RK OW BW
   have k2:=RK5.out.cell 2
   have kf:=RK5.out.frozen 2
   have kl:=RK5.out.lt
   simp only [List.getElem?_cons_zero,List.getElem?_cons_succ] at k2
   go_wp2_with fail
   go_roundg (N - (i+1))
   case measure=>omega
   case rel=>
    exact ⟨i+1,.slice TB (i+1) td,by omega,by omega,by go_num,BW5.out.setCell (p:=⟨(w.heap.size+1),2,none⟩) (by show _≤(w.heap.size+1);omega) _,RK5.out.set 2 _,own_set (p:=⟨(w.heap.size+1),2,none⟩) OW5.out RK5.out (by decide) _⟩
  ·have hlz:¬ (i:Int) < (N:Int):=by omega
   obtain rfl:N=i:=by omega
   go_wp2_with fail
   go_ret
   refine ⟨rfl,⟨_,_,RK.out,World.ownsRow_nil _ _ _ _,?_,Nat.le_succ _⟩,BW.out⟩
   show World.ownsRow _ _ _ _ _ ((List.range (N:Int).toNat).map Int.ofNat).length (ints ((List.range (N:Int).toNat).map Int.ofNat))
   rw [Int.toNat_natCast,List.length_map,List.length_range]
   exact OW.out
theorem outs_snoc (to:List Int) (l:List Int) (k:Nat) (h:k < l.length):ints ((l.take (k+1)).map (toAt to))=ints ((l.take k).map (toAt to)) ++ [.int .i64 (toAt to (l.getD k 0))]:=by
 rw [List.take_succ_eq_append_getElem h,List.map_append,List.getD_eq_getElem?_getD,List.getElem?_eq_getElem h];simp [ints]
def CFrom (A:Option Addr) (n lo:Nat):Prop:=∀ ad,A=some ad→0 < n→lo≤ad.block
theorem CFrom.mono {A:Option Addr} {n lo lo':Nat} (h:CFrom A n lo) (hl:lo'≤lo):CFrom A n lo':=fun ad e hn=>Nat.le_trans hl (h ad e hn)
theorem CFrom.none {n lo:Nat}:CFrom none n lo:=fun ad e=>by cases e
theorem own_from {w:World} {base sz n m c:Nat} {e:TypeId} {A:Option Addr} {xs:List Value} (h:w.ownsRow base e sz (.slice A m c) n xs):CFrom A m base:=fun ad e hn=>by
 rcases h.2 with ⟨h2,_⟩ | ⟨g,cap,cur,h2,h3,_⟩
 ·simp only [Value.slice.injEq] at h2
  rw [h2.1] at e
  cases e
 ·simp only [Value.slice.injEq] at h2
  rw [h2.1] at e
  cases e
  exact h3
theorem Rd.farSet {w:World} {B sz n:Nat} {A:Option Addr} {xs:List Value} (h:Rd w B sz A n xs) {p:Addr} (hp:∀ ad,A=some ad→0 < n→ad.block≠p.block) (u:Value):Rd (w.setCell p u) B sz A n xs:=
 ⟨h.1,fun hn=>let ⟨a,e,hb,hc⟩:=h.2 hn;⟨a,e,hb,fun j v hv=>by
  rw [← hc j v hv]
  unfold World.cell?
  rw [Below.heap_setCell w p u _ (by rw [add_block];exact hp a e hn)]⟩⟩
theorem CAt.farSet {w:World} {c:Circ} {GA OA:Option Addr} {gn on:Nat} (h:CAt w c GA OA gn on) {p:Addr} (hG:∀ ad,GA=some ad→0 < gn→ad.block≠p.block) (hO:∀ ad,OA=some ad→0 < on→ad.block≠p.block) (u:Value):CAt (w.setCell p u) c GA OA gn on:=
 ⟨by rw [World.size_setCell];exact h.gates.farSet hG u,by rw [World.size_setCell];exact h.outs.farSet hO u,h.g63,h.o63⟩
theorem CFrom.ne {A:Option Addr} {n lo:Nat} (h:CFrom A n lo) {b:Nat} (hb:b < lo):∀ ad,A=some ad→0 < n→ad.block≠b:=fun ad e hn=>by have:=h ad e hn;omega
theorem Rd.low {w:World} {B sz n:Nat} {A:Option Addr} {xs:List Value} (h:Rd w B sz A n xs) {b:Nat} (hb:B≤b):∀ ad,A=some ad→0 < n→ad.block≠b:=fun ad e hn=>by
 obtain ⟨a,e2,h2,_⟩:=h.2 hn
 rw [e] at e2
 cases e2
 omega
def CiPost (c:Circ) (lo:Nat) (w:World) (e:Ending) (w':World):Prop:=
 ∃ GA OA gn gc on oc,e=.returned (.agg #[.int .i64 c.inputs,.slice GA gn gc,.slice OA on oc])∧CAt w' c GA OA gn on∧CFrom GA gn lo∧CFrom OA on lo∧Below w.heap.size w w'
set_option maxRecDepth 100000 in
set_option maxHeartbeats 4000000 in
theorem done_any (B b:Nat) (n:Int) (s:Wk) (c:Circ) (GA OA:Option Addr) (gn gc on oc:Nat) (w:World) (h:WkAt w B b n s) (hB:B≤w.heap.size) (hc:CAt w c GA OA gn on) (hne:0 < s.to.length∨on=0) (ht:s.to.length≤30000) (hg:s.gates.length≤30000) (ho:on≤20000)
 (hout:∀ k,k < c.outs.length→0≤c.outs.getD k 0∧c.outs.getD k 0 < s.to.length):
 Calls Try.prog 88 #[.pointer (some ⟨b,0,none⟩),.agg #[.int .i64 c.inputs,.slice GA gn gc,.slice OA on oc]] w (CiPost (doneW c s) B w):=by
 obtain ⟨KA,kc,TA,tc,hr,hog,hot,hBb⟩:=h.op
 have hT:=Rd.of_own hot
 have hG:=Rd.of_own hog
 have HFK:Hid (CFrom KA s.gates.length B):=own_from hog
 have hbl:=hr.lt
 generalize htn:s.to.length=tn at hr ht hne hout hT
 have RLw:=hiD hr
 have HG:=hiD hG
 have HT:=hiD hT
 have HC0:=hiD hc
 have HOL:Hid (∀ _:Unit,c.outs.length=on):=fun _=>hc.ol
 have HOUT:Hid (∀ k,k < on→0≤c.outs.getD k 0∧c.outs.getD k 0 < tn):=fun k hk=>hout k (by rw [hc.ol];exact hk)
 clear hr hog hot hT hG htn hc hout h
 go_enter Try.func88,Try.ntmps88
 go_wp2_with fail
 obtain ⟨wa,hW9,RC,RR,hgr9⟩:=laid2 w [.int .i64 c.inputs,.slice GA gn gc,.slice OA on oc] 37 [.int .i64 0,.slice none 0 0,.slice none 0 0] 37
 rewrite [hW9]
 clear hW9
 have B_w:=hiD hgr9
 clear hgr9
 have hsa:w.heap.size+1 < wa.heap.size:=RR.out.lt
 have RLa:=hiD (rowCells RLw.out B_w.out)
 refine wp_region_L (fun w'=>Row w' w.heap.size 37 [.int .i64 c.inputs,.slice GA gn gc,.slice OA on oc]∧Row w' b 115 [.int .i64 n,.slice KA s.gates.length kc,.slice TA tn tc]) [8] (by kernel_rfl) (by exact ⟨RC.out.drew,RLa.out.drew⟩) (fun hHeld=>?_)
 have RCd:Hid (Row (World.drew wa) w.heap.size 37 [.int .i64 c.inputs,.slice GA gn gc,.slice OA on oc]):=RC.out.drew
 have RRd:Hid (Row (World.drew wa) (w.heap.size+1) 37 [.int .i64 0,.slice none 0 0,.slice none 0 0]):=RR.out.drew
 have RLd:Hid (Row (World.drew wa) b 115 [.int .i64 n,.slice KA s.gates.length kc,.slice TA tn tc]):=RLa.out.drew
 have BWd:Hid (Below w.heap.size w (World.drew wa)):=B_w.out.drew
 have hsd:w.heap.size+1 < (World.drew wa).heap.size:=hsa
 clear RC RR RLa B_w hsa
 revert hHeld RCd RRd RLd BWd hsd
 generalize World.drew wa=wQ
 intro hHeld RC RR RL BW hsq
 refine lPureW 0 ?va1 rfl (by rfl) ?ya1 ?ra1
 case ya1=>intro w' hSw;clear hSw;go_simp;try (with_reducible rfl)
 go_simp
 refine lPureW 2 ?va2 rfl (by rfl) ?ya2 ?ra2
 case ya2=>intro w' hSw;clear hSw;go_simp;try (with_reducible rfl)
 go_simp
 refine lPureW 3 ?va3 rfl (by rfl) ?ya3 ?ra3
 case ya3=>intro w' hSw;clear hSw;go_simp;try (with_reducible rfl)
 go_simp
 refine lPureW 4 ?va4 rfl (by rfl) ?ya4 ?ra4
 case ya4=>intro w' hSw;clear hSw;go_simp;try (with_reducible rfl)
 go_simp
 refine lTakeW 1 ?va5 [[8]] rfl (by rfl) ?ya5 hHeld ?ra5
 case ya5=>
  intro w' hSw
  have hSh:Hid (Row w' w.heap.size 37 [.int .i64 c.inputs,.slice GA gn gc,.slice OA on oc]):=hSw.1
  have hSp:Hid (Row w' b 115 [.int .i64 n,.slice KA s.gates.length kc,.slice TA tn tc]):=hSw.2
  clear hSw
  obtain ⟨z0,z1,z2,zl⟩:=hSh.out.cells3
  obtain ⟨y0,y1,y2,yl⟩:=hSp.out.cells3
  go_simp
  try (with_reducible rfl)
 go_simp
 refine lTakeW 5 ?va6 [[8]] rfl (by rfl) ?ya6 hHeld ?ra6
 case ya6=>
  intro w' hSw
  have hSh:Hid (Row w' w.heap.size 37 [.int .i64 c.inputs,.slice GA gn gc,.slice OA on oc]):=hSw.1
  have hSp:Hid (Row w' b 115 [.int .i64 n,.slice KA s.gates.length kc,.slice TA tn tc]):=hSw.2
  clear hSw
  obtain ⟨z0,z1,z2,zl⟩:=hSh.out.cells3
  obtain ⟨y0,y1,y2,yl⟩:=hSp.out.cells3
  go_simp
  try (with_reducible rfl)
 go_simp
 refine lPureW 6 ?va7 rfl (by rfl) ?ya7 ?ra7
 case ya7=>intro w' hSw;clear hSw;go_simp;try (with_reducible rfl)
 go_simp
 refine restL_one (i:=7) (by kernel_rfl) rfl (fun K hK=>?_)
 go_simp
 have RO:Hid (Row (World.alloc wQ (.cells #[.int .i64 0,.slice none 0 0,.slice none 0 0] 37)) wQ.heap.size 37 [.int .i64 0,.slice none 0 0,.slice none 0 0]):=Row.new wQ 37 [.int .i64 0,.slice none 0 0,.slice none 0 0]
 have RCb:Hid (Row (World.alloc wQ (.cells #[.int .i64 0,.slice none 0 0,.slice none 0 0] 37)) w.heap.size 37 [.int .i64 c.inputs,.slice GA gn gc,.slice OA on oc]):=RC.out.alloc _
 have RRb:Hid (Row (World.alloc wQ (.cells #[.int .i64 0,.slice none 0 0,.slice none 0 0] 37)) (w.heap.size+1) 37 [.int .i64 0,.slice none 0 0,.slice none 0 0]):=RR.out.alloc _
 have RLb:Hid (Row (World.alloc wQ (.cells #[.int .i64 0,.slice none 0 0,.slice none 0 0] 37)) b 115 [.int .i64 n,.slice KA s.gates.length kc,.slice TA tn tc]):=RL.out.alloc _
 have BWb:Hid (Below w.heap.size w (World.alloc wQ (.cells #[.int .i64 0,.slice none 0 0,.slice none 0 0] 37))):=BW.out.alloc BW.out.size _
 clear RC RR RL BW hHeld
 revert RO RCb RRb RLb BWb
 generalize (World.alloc wQ (.cells #[.int .i64 0,.slice none 0 0,.slice none 0 0] 37))=wB
 intro RO RC RR RL BW
 refine hK.out _ _ (fun _=>?keep) (fun hHeld=>?_)
 case keep=>exact ⟨RC.out,RL.out⟩
 have hHeld:=hHeld rfl
 clear hK K
 try go_simp
 refine restL_one (i:=8) (by kernel_rfl) rfl (fun K hK=>?_)
 obtain ⟨q0,q1,q2,ql⟩:=RO.out.cells3
 obtain ⟨qf0,qf1,qf2⟩:=RO.out.froz3
 go_simp
 refine hK.out _ _ (fun h=>absurd h (by decide)) (fun _=>?_)
 clear hK K
 try go_simp
 refine restL_done (by kernel_rfl) ?_ _
 have ROc:Hid (Row (World.setCell (World.setCell (World.setCell wB ⟨wQ.heap.size,0,none⟩ (.int .i64 c.inputs)) ⟨wQ.heap.size,1,none⟩ (.slice KA s.gates.length kc)) ⟨wQ.heap.size,2,none⟩ (.slice none 0 0)) wQ.heap.size 37 [.int .i64 c.inputs,.slice KA s.gates.length kc,.slice none 0 0]):=((RO.out.set 0 _).set 1 _).set 2 _
 have RCc:Hid (Row (World.setCell (World.setCell (World.setCell wB ⟨wQ.heap.size,0,none⟩ (.int .i64 c.inputs)) ⟨wQ.heap.size,1,none⟩ (.slice KA s.gates.length kc)) ⟨wQ.heap.size,2,none⟩ (.slice none 0 0)) w.heap.size 37 [.int .i64 c.inputs,.slice GA gn gc,.slice OA on oc]):=(((RC.out.far (p:=⟨wQ.heap.size,0,none⟩) (by show _≠wQ.heap.size;omega) _).far (p:=⟨wQ.heap.size,1,none⟩) (by show _≠wQ.heap.size;omega) _).far (p:=⟨wQ.heap.size,2,none⟩) (by show _≠wQ.heap.size;omega) _)
 have RRc:Hid (Row (World.setCell (World.setCell (World.setCell wB ⟨wQ.heap.size,0,none⟩ (.int .i64 c.inputs)) ⟨wQ.heap.size,1,none⟩ (.slice KA s.gates.length kc)) ⟨wQ.heap.size,2,none⟩ (.slice none 0 0)) (w.heap.size+1) 37 [.int .i64 0,.slice none 0 0,.slice none 0 0]):=(((RR.out.far (p:=⟨wQ.heap.size,0,none⟩) (by show _≠wQ.heap.size;omega) _).far (p:=⟨wQ.heap.size,1,none⟩) (by show _≠wQ.heap.size;omega) _).far (p:=⟨wQ.heap.size,2,none⟩) (by show _≠wQ.heap.size;omega) _)
 have RLc:Hid (Row (World.setCell (World.setCell (World.setCell wB ⟨wQ.heap.size,0,none⟩ (.int .i64 c.inputs)) ⟨wQ.heap.size,1,none⟩ (.slice KA s.gates.length kc)) ⟨wQ.heap.size,2,none⟩ (.slice none 0 0)) b 115 [.int .i64 n,.slice KA s.gates.length kc,.slice TA tn tc]):=(((RL.out.far (p:=⟨wQ.heap.size,0,none⟩) (by show _≠wQ.heap.size;omega) _).far (p:=⟨wQ.heap.size,1,none⟩) (by show _≠wQ.heap.size;omega) _).far (p:=⟨wQ.heap.size,2,none⟩) (by show _≠wQ.heap.size;omega) _)
 have BWc:Hid (Below w.heap.size w (World.setCell (World.setCell (World.setCell wB ⟨wQ.heap.size,0,none⟩ (.int .i64 c.inputs)) ⟨wQ.heap.size,1,none⟩ (.slice KA s.gates.length kc)) ⟨wQ.heap.size,2,none⟩ (.slice none 0 0))):=(((BW.out.setCell (p:=⟨wQ.heap.size,0,none⟩) (by show _≤wQ.heap.size;omega) _).setCell (p:=⟨wQ.heap.size,1,none⟩) (by show _≤wQ.heap.size;omega) _).setCell (p:=⟨wQ.heap.size,2,none⟩) (by show _≤wQ.heap.size;omega) _)
 clear RO RC RR RL BW q0 q1 q2 ql qf0 qf1 qf2
 revert ROc RCc RRc RLc BWc
 generalize (World.setCell (World.setCell (World.setCell wB ⟨wQ.heap.size,0,none⟩ (.int .i64 c.inputs)) ⟨wQ.heap.size,1,none⟩ (.slice KA s.gates.length kc)) ⟨wQ.heap.size,2,none⟩ (.slice none 0 0))=wC
 intro RO RC RR RL BW
 obtain ⟨k0,k1,k2,kl⟩:=RC.out.cells3
 go_wp2_with fail
 clear k0 k1 k2 kl
 go_loopg [7,18] on (fun gg _ s18 wr=>∃ (k:Nat) (v:Value),k≤on∧on - k≤gg∧s18=.int .i64 k∧wQ.heap.size < wr.heap.size∧Aside (Below w.heap.size w wr)∧Aside (Row wr (w.heap.size+1) 37 [.int .i64 0,.slice none 0 0,.slice none 0 0])∧Aside (Row wr wQ.heap.size 37 [.int .i64 c.inputs,.slice KA s.gates.length kc,v])∧Aside (World.ownsRow wr w.heap.size 3 1 (v) (k) (ints ((c.outs.take (k)).map (toAt s.to)))))
 case atStart=>exact ⟨0,_,Nat.zero_le _,by omega,rfl,RO.out.lt,BW.out,RR.out,RO.out,World.ownsRow_nil _ _ _ _⟩
 case round=>
  clear RO RC RR RL BW
  obtain ⟨k,v,hk,hgg,rfl,hsz,BW,RR,RO,OW⟩:=hrel
  obtain ⟨OB,oc2,rfl,_⟩:=Rd.own OW.out
  have RO:Hid (Row wr wQ.heap.size 37 [.int .i64 c.inputs,.slice KA s.gates.length kc,.slice OB k oc2]):=RO.out
  have RL:=hiD (rowCells RLw.out BW.out)
  by_cases hlt:k < on
  ·have hlz:(k:Int) < (on:Int):=by omega
   obtain ⟨oad,rfl,hob,ho0⟩:=(HC0.out.up BW.out).outs.int hlt
   obtain ⟨o0,o1⟩:=HOUT.out k hlt
   obtain ⟨j,hj⟩:∃ j:Nat,c.outs.getD k 0=(j:Int):=⟨(c.outs.getD k 0).toNat,by omega⟩
   rw [hj] at ho0
   have hjt:j < tn:=by omega
   obtain ⟨tad,rfl,htb,hcell⟩:=(HT.out.up BW.out).int hjt
   have HVS:Hid (∀ _:Unit,ints ((c.outs.take (k+1)).map (toAt s.to))=ints ((c.outs.take k).map (toAt s.to)) ++ [.int .i64 (s.to.getD j 0)]):=fun _=>by
    rw [outs_snoc s.to c.outs k (by rw [HOL.out ()];exact hlt),hj];rfl
   generalize s.to.getD j 0=z at hcell HVS
   have HCL:Hid (∀ W9,Below wr.heap.size wr W9→W9.cell? (tad.add j)=some (.int .i64 z)):=fun W9 h9=>(h9.cell (by rw [add_block];exact htb)).trans hcell
   have hi1:(j:Int) < (tn:Int):=by omega
   clear hj o0 o1 hcell htb
   go_wp2_with fail
   clear ho0 hob
   refine wp_region_L (fun w'=>Row w' b 115 [.int .i64 n,.slice KA s.gates.length kc,.slice (some tad) tn tc]∧Row w' wQ.heap.size 37 [.int .i64 c.inputs,.slice KA s.gates.length kc,.slice OB k oc2]∧w'.cell? (tad.add j)=some (.int .i64 z)) [10,11,12] (by kernel_rfl) (by exact ⟨RL.out.drew,RO.out.drew,HCL.out _ (Below.refl _ _).drew⟩) (fun hHeld=>?_)
   have ROd:Hid (Row (World.drew wr) wQ.heap.size 37 [.int .i64 c.inputs,.slice KA s.gates.length kc,.slice OB k oc2]):=RO.out.drew
   have RRd:Hid (Row (World.drew wr) (w.heap.size+1) 37 [.int .i64 0,.slice none 0 0,.slice none 0 0]):=RR.out.drew
   have OWd:Hid (World.ownsRow (World.drew wr) w.heap.size 3 1 (.slice OB k oc2) (k) (ints ((c.outs.take (k)).map (toAt s.to)))):=OW.out
   have BWd:Hid (Below w.heap.size w (World.drew wr)):=BW.out.drew
   have hsd:wQ.heap.size < (World.drew wr).heap.size:=hsz
   have RLd:Hid (Row (World.drew wr) b 115 [.int .i64 n,.slice KA s.gates.length kc,.slice (some tad) tn tc]):=RL.out.drew
   have HCd:Hid (∀ W9,Below (World.drew wr).heap.size (World.drew wr) W9→W9.cell? (tad.add j)=some (.int .i64 z)):=fun W9 h9=>HCL.out W9 (((Below.refl wr.heap.size wr).drew).trans h9)
   clear RO RR OW BW RL HCL
   revert hHeld ROd RRd OWd BWd hsd RLd HCd
   generalize World.drew wr=wD
   intro hHeld RO RR OW BW hsd RL HCL
   refine lPureW 0 ?vb1 rfl (by rfl) ?yb1 ?rb1
   case yb1=>intro w' hSw;clear hSw;go_simp;try (with_reducible rfl)
   go_simp
   refine lPureW 2 ?vb2 rfl (by rfl) ?yb2 ?rb2
   case yb2=>intro w' hSw;clear hSw;go_simp;try (with_reducible rfl)
   go_simp
   refine lPureW 3 ?vb3 rfl (by rfl) ?yb3 ?rb3
   case yb3=>intro w' hSw;clear hSw;go_simp;try (with_reducible rfl)
   go_simp
   refine lPureW 4 ?vb4 rfl (by rfl) ?yb4 ?rb4
   case yb4=>intro w' hSw;clear hSw;go_simp;try (with_reducible rfl)
   go_simp
   refine lPureW 6 ?vb5 rfl (by rfl) ?yb5 ?rb5
   case yb5=>intro w' hSw;clear hSw;go_simp;try (with_reducible rfl)
   go_simp
   refine lTakeW 1 ?vb6 [[10],[11],[12]] rfl (by rfl) ?yb6 hHeld ?rb6
   case yb6=>
    intro w' hSw
    have hSh:Hid (Row w' b 115 [.int .i64 n,.slice KA s.gates.length kc,.slice (some tad) tn tc]):=hSw.1
    have hSp:Hid (Row w' wQ.heap.size 37 [.int .i64 c.inputs,.slice KA s.gates.length kc,.slice OB k oc2]):=hSw.2.1
    have hSc:=hSw.2.2
    clear hSw
    obtain ⟨z0,z1,z2,zl⟩:=hSh.out.cells3
    obtain ⟨y0,y1,y2,yl⟩:=hSp.out.cells3
    go_simp
    try (with_reducible rfl)
   go_simp
   refine lTakeW 5 ?vb7 [[10,9,8,7],[11],[12]] rfl (by rfl) ?yb7 hHeld ?rb7
   case yb7=>
    intro w' hSw
    have hSh:Hid (Row w' b 115 [.int .i64 n,.slice KA s.gates.length kc,.slice (some tad) tn tc]):=hSw.1
    have hSp:Hid (Row w' wQ.heap.size 37 [.int .i64 c.inputs,.slice KA s.gates.length kc,.slice OB k oc2]):=hSw.2.1
    have hSc:=hSw.2.2
    clear hSw
    obtain ⟨z0,z1,z2,zl⟩:=hSh.out.cells3
    obtain ⟨y0,y1,y2,yl⟩:=hSp.out.cells3
    go_simp
    try (with_reducible rfl)
   go_simp
   refine lTakeW 7 ?vb8 [[10,9,8],[11],[12]] rfl (by rfl) ?yb8 hHeld ?rb8
   case yb8=>
    intro w' hSw
    have hSh:Hid (Row w' b 115 [.int .i64 n,.slice KA s.gates.length kc,.slice (some tad) tn tc]):=hSw.1
    have hSp:Hid (Row w' wQ.heap.size 37 [.int .i64 c.inputs,.slice KA s.gates.length kc,.slice OB k oc2]):=hSw.2.1
    have hSc:=hSw.2.2
    clear hSw
    obtain ⟨z0,z1,z2,zl⟩:=hSh.out.cells3
    obtain ⟨y0,y1,y2,yl⟩:=hSp.out.cells3
    go_simp
    try (with_reducible rfl)
   go_simp
   refine lTakeW 8 ?vb9 [[10,9],[11],[12]] rfl (by rfl) ?yb9 hHeld ?rb9
   case yb9=>
    intro w' hSw
    have hSh:Hid (Row w' b 115 [.int .i64 n,.slice KA s.gates.length kc,.slice (some tad) tn tc]):=hSw.1
    have hSp:Hid (Row w' wQ.heap.size 37 [.int .i64 c.inputs,.slice KA s.gates.length kc,.slice OB k oc2]):=hSw.2.1
    have hSc:=hSw.2.2
    clear hSw
    obtain ⟨z0,z1,z2,zl⟩:=hSh.out.cells3
    obtain ⟨y0,y1,y2,yl⟩:=hSp.out.cells3
    go_simp
    try (with_reducible rfl)
   go_simp
   refine restL_one (i:=9) (by kernel_rfl) rfl (fun K hK=>?_)
   go_simp
   refine hK.out _ _ (fun _=>?keep) (fun hHeld=>?_)
   case keep=>exact ⟨RL.out.alloc _,RO.out.alloc _,HCL.out _ ((Below.refl _ _).alloc (Nat.le_refl _) _)⟩
   have hHeld:=hHeld rfl
   clear hK K
   try go_simp
   refine restL_one (i:=10) (by kernel_rfl) rfl (fun K hK=>?_)
   refine step_app rfl (.tmp 23) (.tmp 31) 35 rfl w.heap.size 3 (.int .i64 0) 1 8 Try.underlying35 int_infoZ rfl (by decide) (by decide) (.slice OB k oc2) k (ints ((c.outs.take k).map (toAt s.to))) rfl ?own (wD.heap.size+1) (some ⟨wD.heap.size,0,none⟩) 1 1 [.int .i64 z] rfl ?rd ?one ?hb ?hbase ?_
   case own=>exact OW.out.alloc _
   case rd=>exact Rd.lit wD #[.int .i64 z] 3 (sz:=1) (m:=1) rfl
   case one=>first | (intro u hu;simp at hu;subst hu;rfl) | rfl
   case hb=>omega
   case hbase=>have:=BW.out.size;simp;omega
   intro v' w5 hown' hgrow' hat'
   obtain ⟨OC,od,rfl,_⟩:=Rd.own hown'
   have RO5:Hid (Row w5 wQ.heap.size 37 [.int .i64 c.inputs,.slice KA s.gates.length kc,.slice OB k oc2]):=(RO.out.alloc _).grown hgrow' (fun e=>own_ne_row OW.out RO.out (by decide) e.symm)
   have RR5:Hid (Row w5 (w.heap.size+1) 37 [.int .i64 0,.slice none 0 0,.slice none 0 0]):=(RR.out.alloc _).grown hgrow' (fun e=>own_ne_row OW.out RR.out (by decide) e.symm)
   have OW5:Hid (World.ownsRow w5 w.heap.size 3 1 (.slice OC (k+1) od) (k+1) (ints ((c.outs.take (k+1)).map (toAt s.to)))):=(by show World.ownsRow _ _ _ _ _ _ _;rw [HVS.out ()];exact hown')
   have BW5:Hid (Below w.heap.size w w5):=(BW.out.alloc BW.out.size _).grown hgrow' (by have:=BW.out.size;simp;omega) (fun q hq=>(OW.out.lt q hq).1)
   have hs5:wQ.heap.size < w5.heap.size:=Nat.lt_of_lt_of_le hsd (Nat.le_trans (by simp) hgrow'.size)
   have q2:=RO5.out.cell 2
   have qf:=RO5.out.frozen 2
   have ql:=RO5.out.lt
   simp only [List.getElem?_cons_zero,List.getElem?_cons_succ] at q2
   clear hown' hgrow' hat' RO RR OW BW hsd RL HCL hHeld
   refine hK.out _ _ (fun h=>absurd h (by decide)) (fun _=>?_)
   clear hK K
   try go_simp
   refine lPureW 11 ?vb10 rfl (by rfl) ?yb10 ?rb10
   case yb10=>intro w' hSw;clear hSw;go_simp;try (with_reducible rfl)
   go_simp
   refine restL_one (i:=12) (by kernel_rfl) rfl (fun K hK=>?_)
   go_simp
   refine hK.out _ _ (fun h=>absurd h (by decide)) (fun _=>?_)
   clear hK K
   try go_simp
   refine restL_done (by kernel_rfl) ?_ _
   go_wp2_with fail
   go_roundg (on - (k+1))
   case measure=>omega
   case rel=>
    exact ⟨k+1,.slice OC (k+1) od,by omega,by omega,by go_num,by rw [World.size_setCell];exact hs5,BW5.out.setCell (p:=⟨wQ.heap.size,2,none⟩) (by show _≤wQ.heap.size;omega) _,RR5.out.far (p:=⟨wQ.heap.size,2,none⟩) (by show _≠wQ.heap.size;omega) _,RO5.out.set 2 _,own_set (p:=⟨wQ.heap.size,2,none⟩) OW5.out RO5.out (by decide) _⟩
  ·have hlz:¬ (k:Int) < (on:Int):=by omega
   obtain rfl:on=k:=by omega
   obtain ⟨q0,q1,q2,ql⟩:=RO.out.cells3
   obtain ⟨z0,z1,z2,zl⟩:=RR.out.cells3
   obtain ⟨zf0,zf1,zf2⟩:=RR.out.froz3
   go_wp2
   have Z9:=RR.out.set3 (.int .i64 c.inputs) (.slice KA s.gates.length kc) (.slice OB on oc2)
   have B9:=bSet3 BW.out (w.heap.size+1) (by show _≤(w.heap.size+1);omega) (.int .i64 c.inputs) (.slice KA s.gates.length kc) (.slice OB on oc2)
   have O9:=(own_set (p:=⟨(w.heap.size+1),2,none⟩) (own_set (p:=⟨(w.heap.size+1),1,none⟩) (own_set (p:=⟨(w.heap.size+1),0,none⟩) OW.out RR.out (by decide) (.int .i64 c.inputs)) (Row.set RR.out 0 (.int .i64 c.inputs)) (by decide) (.slice KA s.gates.length kc)) (Row.set (Row.set RR.out 0 (.int .i64 c.inputs)) 1 (.slice KA s.gates.length kc)) (by decide) (.slice OB on oc2))
   obtain ⟨d0,d1,d2,-⟩:=Z9.cells3
   clear Z9
   refine bodyPost_ret (v:=.agg #[.int .i64 c.inputs,.slice KA s.gates.length kc,.slice OB on oc2]) (by simp [results,Try.results88,go_sem,d0,d1,d2]) rfl ?_
   have e1:(doneW c s).outs=(c.outs.take on).map (toAt s.to):=by
    show c.outs.map (toAt s.to)=_
    rw [List.take_of_length_le (by rw [HOL.out ()];exact Nat.le_refl _)]
   exact ⟨KA,OB,s.gates.length,kc,on,oc2,rfl,⟨HG.out.up B9,by rw [e1];exact Rd.of_own O9,by unfold maxLen;omega,by unfold maxLen;omega⟩,HFK.out,(own_from O9).mono hB,B9⟩
end Go.Proofs.Ytiemhbogbaamlaa
/-
 A part.
-/
namespace Go.Proofs.Ytiemhbogbaamlaa
open Go.RowKit
def PredInts (P:Program) (g:Nat) (lb:Array Value) (p:Int→Bool) (zs:List Int) (w:World):Prop:=
 ∀ (W:World) (x:Int),x ∈ zs→Below w.heap.size w W→Calls P g (#[.int .i64 x] ++ lb) W fun e w'=>e=.returned (.bool (p x))∧Below w.heap.size w w'
def findI (p:Int→Bool) (zs:List Int):Int:=match zs.findIdx? p with | some i=>i | none=>-1
theorem findI_hit (p:Int→Bool) (zs:List Int) (k:Nat) (hk:k < zs.length) (hp:p (zs.getD k 0)=true) (hno:∀ j,j < k→p (zs.getD j 0)=false):findI p zs=k:=by
 have hg:zs.getD k 0=zs[k]:=by simp [List.getD_eq_getElem?_getD,List.getElem?_eq_getElem hk]
 have:zs.findIdx? p=some k:=by
  rw [List.findIdx?_eq_some_iff_getElem]
  refine ⟨hk,by rw [← hg];exact hp,fun j hj=>?_⟩
  have:=hno j hj
  simp [List.getD_eq_getElem?_getD,List.getElem?_eq_getElem (show j < zs.length by omega)] at this
  simp [this]
 simp [findI,this]
theorem findI_miss (p:Int→Bool) (zs:List Int) (hno:∀ j,j < zs.length→p (zs.getD j 0)=false):findI p zs=-1:=by
 have:zs.findIdx? p=none:=by
  rw [List.findIdx?_eq_none_iff]
  intro x hx
  obtain ⟨j,hj,rfl⟩:=List.getElem_of_mem hx
  have:=hno j hj
  simpa [List.getD_eq_getElem?_getD,List.getElem?_eq_getElem hj] using this
 simp [findI,this]
theorem findI_nonneg (p:Int→Bool) (zs:List Int):decide (0≤findI p zs)=zs.any p:=by
 unfold findI
 cases h:zs.findIdx? p with
 | none=>rw [List.findIdx?_eq_none_iff] at h;simp;intro x hx;simpa using h x hx
 | some i=>
  rw [List.findIdx?_eq_some_iff_getElem] at h
  obtain ⟨hi,hp,_⟩:=h
  simp
  exact ⟨_,List.getElem_mem hi,hp⟩
set_option maxHeartbeats 400000 in
theorem indexFunc_ints (A:Option Addr) (n c:Nat) (zs:List Int) (g:Nat) (lb:Array Value) (p:Int→Bool) (w:World)
 (eg:∀ args w,(callFunc g args).run Try.prog w=.ok (.enter g args) w)
 (hr:Rd w w.heap.size 1 A n (ints zs)) (hbig:n≤9223372036854775807) (hp:PredInts Try.prog g lb p zs w):
 Calls Try.prog 103 #[.slice A n c,.func (.func g) #[] lb] w fun e w'=>e=.returned (.int .i64 (findI p zs))∧Below w.heap.size w w':=by
 have hl:zs.length=n:=by have:=hr.1;simpa using this
 have HL:=hiD hl
 have HR:=hiD hr
 have HP:=hiD hp
 clear hl hr hp
 go_enter Try.func103,Try.ntmps103
 go_wp2
 go_loopg [5,8] n (fun gg _ s8 wr=>∃ kk:Nat,kk≤n∧n - kk≤gg∧s8=.int .i64 kk∧Aside (Below w.heap.size w wr)∧Aside (∀ j,j < kk→p (zs.getD j 0)=false))
 case atStart=>exact ⟨0,Nat.zero_le _,by omega,rfl,Below.refl _ w,fun j hj=>absurd hj (Nat.not_lt_zero _)⟩
 case round=>
  obtain ⟨kk,hkk,hg,rfl,BW,AA⟩:=hrel
  by_cases hlt:kk < n
  ·have hltz:(kk:Int) < (n:Int):=by omega
   obtain ⟨ad,rfl,hb,hcell0⟩:=HR.out.int hlt
   have hcell:wr.cell? (ad.add kk)=some (.int .i64 (zs.getD kk 0)):=(BW.out.cell (by rw [add_block];exact hb)).trans hcell0
   clear hcell0
   have hcall:=HP.out wr (zs.getD kk 0) (by rw [List.getD_eq_getElem?_getD,List.getElem?_eq_getElem (by rw [HL.out];exact hlt)];exact List.getElem_mem _) BW.out
   generalize hy:zs.getD kk 0=y at hcell hcall
   have HY:Aside (zs.getD kk 0=y):=hy
   clear hy
   cases hq:p y with
   | true=>
    rw [hq] at hcall
    go_wp2_with fail
    refine hcall.mono ?_
    rintro e w' ⟨rfl,hb'⟩
    go_wp2
    go_ret
    refine ⟨?_,hb'⟩
    rw [findI_hit p zs kk (by rw [HL.out];exact hlt) (by rw [HY.out];exact hq) AA.out]
    rfl
   | false=>
    rw [hq] at hcall
    go_wp2_with fail
    refine hcall.mono ?_
    rintro e w' ⟨rfl,hb'⟩
    go_wp2
    go_roundg (n - (kk+1))
    case measure=>omega
    case rel=>
     refine ⟨kk+1,by omega,by omega,by go_num,hb',(show Aside _ from fun j hj=>?_)⟩
     by_cases e:j=kk
     ·subst e
      rw [HY.out];exact hq
     ·exact AA.out j (by omega)
  ·have hltz:¬ (kk:Int) < (n:Int):=by omega
   have:kk=n:=by omega
   subst this
   go_wp2
   go_ret
   refine ⟨?_,BW.out⟩
   rw [findI_miss p zs (fun j hj=>AA.out j (by rw [HL.out] at hj;exact hj))]
   rfl
theorem containsFunc_ints (A:Option Addr) (n c:Nat) (zs:List Int) (g:Nat) (lb:Array Value) (p:Int→Bool) (w:World)
 (eg:∀ args w,(callFunc g args).run Try.prog w=.ok (.enter g args) w)
 (hr:Rd w w.heap.size 1 A n (ints zs)) (hbig:n≤9223372036854775807) (hp:PredInts Try.prog g lb p zs w):
 Calls Try.prog 75 #[.slice A n c,.func (.func g) #[] lb] w fun e w'=>e=.returned (.bool (zs.any p))∧Below w.heap.size w w':=by
 rw [← findI_nonneg]
 go_enter Try.func75,Try.ntmps75
 go_wp2_with (go_at_call 103;refine (indexFunc_ints A n c zs g lb p _ eg hr hbig hp).mono ?_;rintro e w' ⟨rfl,hb'⟩)
 go_ret
 exact ⟨rfl,hb'⟩
end Go.Proofs.Ytiemhbogbaamlaa
/-
 A part.
-/
namespace Go.Proofs.Ytiemhbogbaamlaa
open Go.RowKit
set_option maxHeartbeats 400000 in
theorem operands_any (op:Int) (w:World):
 Calls Try.prog 81 #[.int .i64 op] w fun e w'=>e=.returned (.int .i64 (operandsF op))∧w=w':=by
 go_enter Try.func81,Try.ntmps81
 go_wp2
 all_goals go_ret
 all_goals (refine ⟨?_,rfl⟩;simp_all [operandsF])
set_option maxHeartbeats 400000 in
theorem wire_any (x k n inputs i:Int) (pn pc pi:Nat) (w:World)
 (hn:w.cell? ⟨pn,0,none⟩=some (.int .i64 n)) (hc:w.cell? ⟨pc,0,none⟩=some (.int .i64 inputs)) (hi:w.cell? ⟨pi,0,none⟩=some (.int .i64 i))
 (h0:0≤inputs) (h1:inputs≤1000) (h2:0≤i) (h3:i≤20000):
 Calls Try.prog 82 #[.int .i64 x,.int .i64 k,.pointer (some ⟨pn,0,none⟩),.pointer (some ⟨pc,0,none⟩),.pointer (some ⟨pi,0,none⟩)] w fun e w'=>e=.returned (.bool (wireOk n x k (inputs+i)))∧w=w':=by
 go_enter Try.func82,Try.ntmps82
 go_wp2
 all_goals go_ret
 all_goals refine ⟨ret_bool ?_,rfl⟩
 all_goals unfold wireOk
 all_goals (rw [Bool.eq_iff_iff];simp;omega)
set_option maxHeartbeats 400000 in
theorem outs_any (x inputs:Int) (pc:Nat) (A:Option Addr) (n c:Nat) (w:World)
 (hc:w.cell? ⟨pc,0,none⟩=some (.int .i64 inputs)) (hg:w.cell? ⟨pc,1,none⟩=some (.slice A n c))
 (h0:0≤inputs) (h1:inputs≤1000) (h3:n≤20000):
 Calls Try.prog 83 #[.int .i64 x,.pointer (some ⟨pc,0,none⟩)] w fun e w'=>e=.returned (.bool (!outOk (inputs+n) x))∧w=w':=by
 go_enter Try.func83,Try.ntmps83
 go_wp2
 all_goals go_ret
 all_goals refine ⟨ret_bool ?_,rfl⟩
 all_goals unfold outOk
 all_goals first | (rw [Bool.eq_iff_iff];simp;omega) | (rw [Bool.eq_iff_iff];simp;done)
set_option maxHeartbeats 400000 in
theorem right_any (inputs:Int) (GA OA:Option Addr) (gn gc on oc:Nat) (gs:List Gt) (os:List Int) (w:World)
 (hG:Rd w w.heap.size 3 GA gn (gatesCells gs)) (hO:Rd w w.heap.size 1 OA on (ints os)) (hm1:gn≤maxLen) (hm2:on≤maxLen):
 Calls Try.prog 54 #[.agg #[.int .i64 inputs,.slice GA gn gc,.slice OA on oc]] w fun e w'=>e=.returned (.bool (rightC ⟨inputs,gs,os⟩))∧Below w.heap.size w w':=by
 unfold maxLen at hm1 hm2
 have HN:Hid (gs.length=gn):=by have:=hG.1;simp [gatesCells_length] at this;show gs.length=gn;omega
 have HM:Hid (os.length=on):=by have:=hO.1;simp at this;show os.length=on;omega
 have HG:=hiD hG
 have HO:=hiD hO
 clear hG hO
 by_cases hok:0≤inputs∧inputs≤1000∧gn≤20000∧on≤1000
 ·obtain ⟨h0,h1,h2,h3⟩:=hok
  go_enter Try.func54,Try.ntmps54
  go_wp2
  go_loopg [30] gn (fun gg s30 wr=>∃ kk:Nat,kk≤gn∧gn - kk≤gg∧s30=.int .i64 kk∧Aside (Below (w.heap.size+1) (w.alloc (.cells #[.int .i64 inputs,.slice GA gn gc,.slice OA on oc] 37)) wr)∧Aside (∀ j,j < kk→gateOk (inputs+j) (gs.getD j default)=true))
  case atStart=>exact ⟨0,Nat.zero_le _,by omega,rfl,Below.refl _ _,fun j hj=>absurd hj (Nat.not_lt_zero _)⟩
  case round=>
   obtain ⟨kk,hkk,hg,rfl,BW,AA⟩:=hrel
   have hc0:wr.cell? ⟨w.heap.size,0,none⟩=some (.int .i64 inputs):=(BW.out.cell (p:=⟨w.heap.size,0,none⟩) (by simp)).trans (by simp)
   have hc1:wr.cell? ⟨w.heap.size,1,none⟩=some (.slice GA gn gc):=(BW.out.cell (p:=⟨w.heap.size,1,none⟩) (by simp)).trans (by simp)
   have hc2:wr.cell? ⟨w.heap.size,2,none⟩=some (.slice OA on oc):=(BW.out.cell (p:=⟨w.heap.size,2,none⟩) (by simp)).trans (by simp)
   have hsz:w.heap.size < wr.heap.size:=by have:=BW.out.size;simp at this;omega
   by_cases hlt:kk < gn
   ·have hltz:(kk:Int) < (gn:Int):=by omega
    obtain ⟨ad,rfl,hb,hg0,hg1,hg2⟩:=((HG.out.alloc (Nat.le_refl _) _).below BW.out (by omega)).gate hlt
    generalize hy:gs.getD kk default=g at hg0 hg1 hg2
    have HY:Aside (gs.getD kk default=g):=hy
    clear hy
    go_wp2_with fail
    refine (operands_any _ _).mono ?_
    rintro e w' ⟨rfl,rfl⟩
    have b0:=operandsF_bd g.op
    go_wp2_with fail
    ·refine (wire_any g.a 1 (operandsF g.op) inputs kk _ _ _ _ (by go_cell) (by simp (disch:=(simp;omega)) only [World.cell?_alloc_lt];exact hc0) (by go_cell) h0 h1 (by omega) (by omega)).mono ?_
     rintro e w' ⟨rfl,rfl⟩
     go_wp2_with fail
     ·refine (wire_any g.b 2 (operandsF g.op) inputs kk _ _ _ _ (by go_cell) (by simp (disch:=(simp;omega)) only [World.cell?_alloc_lt];exact hc0) (by go_cell) h0 h1 (by omega) (by omega)).mono ?_
      rintro e w' ⟨rfl,rfl⟩
      have BB:=BW.out
      have B0:=below_box (k:=1) BW.out
      have hA:wireOk (operandsF g.op) g.a 1 (inputs+kk)=true:=by assumption
      have hgo:gateOk (inputs+kk) g=wireOk (operandsF g.op) g.b 2 (inputs+kk):=by unfold gateOk;rw [hA,decide_eq_true (by assumption)];simp
      have HGO:Aside (gateOk (inputs+kk) g=wireOk (operandsF g.op) g.b 2 (inputs+kk)):=hgo
      clear hgo
      cases hB:wireOk (operandsF g.op) g.b 2 (inputs+kk)
      ·have h0':¬ operandsF g.op < 0:=by omega
       go_wp2
       go_ret
       refine ⟨ret_bool ?_,?_⟩
       ·exact (right_false_gate ⟨inputs,gs,os⟩ kk (by rw [HN.out];exact hlt) (by rw [HY.out,HGO.out,hB])).symm
       ·go_grown
      ·have h0':¬ operandsF g.op < 0:=by omega
       go_wp2
       go_roundg (gn - (kk+1))
       case measure=>omega
       case rel=>
        refine ⟨kk+1,by omega,by omega,by go_num,?_,(show Aside _ from fun j hj=>?_)⟩
        ·show Below _ _ _
         go_grown
        ·by_cases e:j=kk
         ·subst e
          rw [HY.out,HGO.out,hB]
         ·exact AA.out j (by omega)
     ·have BB:=BW.out
      have B0:=below_box (k:=1) BW.out
      have hA:¬ wireOk (operandsF g.op) g.a 1 (inputs+kk)=true:=by assumption
      go_ret
      refine ⟨ret_bool ?_,?_⟩
      ·exact (right_false_gate ⟨inputs,gs,os⟩ kk (by rw [HN.out];exact hlt) (by rw [HY.out];unfold gateOk;simp [hA])).symm
      ·go_grown
    ·have BB:=BW.out
     have B0:=below_box (k:=1) BW.out
     go_ret
     refine ⟨ret_bool ?_,?_⟩
     ·exact (right_false_gate ⟨inputs,gs,os⟩ kk (by rw [HN.out];exact hlt) (by rw [HY.out];unfold gateOk;rw [decide_eq_false (by omega)];rfl)).symm
     ·go_grown
   ·have hltz:¬ (kk:Int) < (gn:Int):=by omega
    obtain rfl:kk=gn:=by omega
    have BB:=BW.out
    have B0:=below_box (k:=1) BW.out
    go_wp2_with fail
    refine (containsFunc_ints OA on oc os _ _ (fun x=>!outOk (inputs+kk) x) _ (enters Try.func83 (by kernel_rfl) rfl) (((HO.out.alloc (Nat.le_refl _) _).below BW.out (by omega)).more (by omega)) hm2 ?_).mono ?_
    ·intro W x hx hb
     refine (outs_any x inputs w.heap.size GA kk gc W ((hb.cell (by show w.heap.size < _;omega)).trans hc0) ((hb.cell (by show w.heap.size < _;omega)).trans hc1) h0 h1 h2).mono ?_
     rintro e w' ⟨rfl,rfl⟩
     exact ⟨rfl,hb⟩
    ·rintro e w' ⟨rfl,hb'⟩
     go_wp2
     go_ret
     refine ⟨ret_bool ?_,B0.trans (hb'.mono (by omega))⟩
     rw [right_true_gates ⟨inputs,gs,os⟩ ⟨h0,h1,by rw [HN.out];exact h2,by rw [HM.out];exact h3⟩ (fun j hj=>AA.out j (by rw [HN.out] at hj;exact hj)),HN.out]
     simp [List.all_eq_not_any_not]
 ·have h':¬ (((0≤inputs∧inputs≤1000)∧(gn:Int)≤20000)∧(on:Int)≤1000):=by omega
  have HK:Aside (rightC ⟨inputs,gs,os⟩=false):=by
   show _=_
   unfold rightC
   rw [decide_eq_false (by simp only [HN.out,HM.out];exact hok)]
   rfl
  clear hok
  go_enter Try.func54,Try.ntmps54
  go_wp2
  all_goals go_ret
  all_goals (rw [HK.out];exact ⟨rfl,by go_grown⟩)
end Go.Proofs.Ytiemhbogbaamlaa
