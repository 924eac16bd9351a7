/-
  Lemmas for the law TopCircuits.
-/
import Derived.Test.YtbijfnbelkbofaaGreatDoorJZ1
import Derived.Test.YtbijfnbelkbofaaGreatDoorJZ2
import Derived.Test.YtbijfnbelkbofaaGreatDoorProg
import Derived.BigRegion
import Derived.BigQuiet
import Derived.StillTailTactics
set_option linter.unusedSimpArgs false
set_option linter.unusedVariables false
namespace Go.Proofs.YtbijfnbelkbofaaGreatDoor
open Go.RowKit
theorem gate_infoZ:(Tryz.prog.info? 135).map (fun i=>(i.zero,i.size,i.bytes))=some (some (.agg #[.int .i64 0,.int .i64 0,.int .i64 0]),3,24):=by kernel_rfl
theorem int_infoZ:(Tryz.prog.info? 3).map (fun i=>(i.zero,i.size,i.bytes))=some (some (.int .i64 0),1,8):=by kernel_rfl
theorem gate_oneZ (x y z:Int):∀ u ∈ [Value.int .i64 x,Value.int .i64 y,Value.int .i64 z],u.oneCell'=true:=by
 intro u hu;simp only [List.mem_cons,List.not_mem_nil,or_false] at hu;rcases hu with rfl | rfl | rfl <;> rfl
def WkAt (W:World) (B b:Nat) (n:Int) (s:Wk):Prop:=
 ∃ gv tv,Row W b 144 [.int .i64 n,gv,tv]∧World.ownsRow W B 135 3 (gv) (s.gates.length) (gatesCells s.gates)∧World.ownsRow W B 3 1 (tv) (s.tq.length) (ints s.tq)∧B≤b
structure WFr (B:Nat) (w w':World):Prop where
 below:Below B w w'
 keep:∀ (k:Nat) (o:Obj),w.heap[k]?=some o→(∀ cs T fz,o=.cells cs T fz→T≠144∧T≠135∧T≠3)→w'.heap[k]?=some o
section
variable {B b:Nat} {w w1 w':World} {n:Int} {s:Wk}
theorem WFr.refl (B:Nat) (w:World):WFr B w w:=⟨Below.refl _ _,fun _ _ h _=>h⟩
theorem WFr.trans (h:WFr B w w1) (k:WFr B w1 w'):WFr B w w':=⟨h.below.trans k.below,fun g o hg ho=>k.keep g o (h.keep g o hg ho) ho⟩
theorem WFr.ofBelow (h:Below w.heap.size w w') (hB:B≤w.heap.size):WFr B w w':=⟨h.mono hB,fun k o hk _=>by rw [h.block k (heap_lt hk)];exact hk⟩
theorem WFr.drewN (h:WFr B w w1) (k:Nat):WFr B w (w1.drewN k):=⟨below_drewN h.below k,h.keep⟩
theorem WFr.alloc (h:WFr B w w1) (hB:B≤w1.heap.size) (o:Obj):WFr B w (w1.alloc o):=⟨h.below.alloc hB o,fun k o' hk ho=>by
 have:=h.keep k o' hk ho
 rw [Below.heap_alloc w1 o k (heap_lt this)];exact this⟩
theorem WFr.set {xs:List Value} {p:Addr} (h:WFr B w w1) (hr:Row w1 p.block 144 xs) (hB:B≤p.block) (u:Value):WFr B w (w1.setCell p u):=
 ⟨h.below.setCell hB u,fun k o hk ho=>by
  have h1:=h.keep k o hk ho
  rw [Below.heap_setCell w1 p u k (fun e=>by
   subst e;unfold Row at hr;rw [hr] at h1
   exact (ho _ _ _ (Option.some.inj h1).symm).1 rfl)]
  exact h1⟩
theorem WFr.grown {base sz m:Nat} {e:TypeId} {v:Value} {xs:List Value} (h:WFr B w w1) (ho:w1.ownsRow base e sz v m xs) (he:e=135∨e=3) (hB:B≤base) (hS:B≤w1.heap.size) (hg:w1.grownBy w' v.ownBlock):WFr B w w':=by
 refine ⟨h.below.grown hg hS (fun k hk=>Nat.le_trans hB (own_block_type ho hk).choose_spec.2),fun k o hk hoo=>?_⟩;have h1:=h.keep k o hk hoo
 rw [hg.block k (heap_lt h1) (fun e2=>by
  obtain ⟨cur,hc,_⟩:=own_block_type ho e2.symm;rw [hc] at h1;have:=hoo _ _ _ (Option.some.inj h1).symm;rcases he with rfl | rfl
  ·exact this.2.1 rfl
  ·exact this.2.2 rfl)]
 exact h1
theorem WFr.row {g:Nat} {T:TypeId} {xs:List Value} (h:WFr B w w') (hr:Row w g T xs) (h1:T≠144) (h2:T≠135) (h3:T≠3):Row w' g T xs:=
 h.keep g _ hr (fun cs T' fz e=>by cases e;exact ⟨h1,h2,h3⟩)
theorem WkAt.blk (h:WkAt w B b n s):b < w.heap.size∧B≤b:=by
 obtain ⟨gv,tv,h1,_,_,h3⟩:=h;exact ⟨h1.lt,h3⟩
theorem WkAt.keep (h:WkAt w B b n s) (hb:∀ k,k < w.heap.size→w'.heap[k]?=w.heap[k]?):WkAt w' B b n s:=by
 obtain ⟨gv,tv,h1,h2,h3,h4⟩:=h
 exact ⟨gv,tv,(hb b h1.lt).trans h1,⟨h2.1,h2.2.imp id (fun ⟨g,cap,cur,a,b',c,d⟩=>⟨g,cap,cur,a,b',(hb g (heap_lt c)).trans c,d⟩)⟩,
  ⟨h3.1,h3.2.imp id (fun ⟨g,cap,cur,a,b',c,d⟩=>⟨g,cap,cur,a,b',(hb g (heap_lt c)).trans c,d⟩)⟩,h4⟩
theorem WkAt.below (h:WkAt w B b n s) (hb:Below w.heap.size w w'):WkAt w' B b n s:=h.keep hb.block
theorem WkAt.alloc (h:WkAt w B b n s) (o:Obj):WkAt (w.alloc o) B b n s:=h.keep (fun k hk=>Below.heap_alloc w o k hk)
theorem WkAt.op (h:WkAt w B b n s):∃ GA gc TA tc,Row w b 144 [.int .i64 n,.slice GA s.gates.length gc,.slice TA s.tq.length tc]∧World.ownsRow w B 135 3 (.slice GA s.gates.length gc) (s.gates.length) (gatesCells s.gates)∧World.ownsRow w B 3 1 (.slice TA s.tq.length tc) (s.tq.length) (ints s.tq)∧B≤b:=by
 obtain ⟨gv,tv,h1,h2,h3,h4⟩:=h;obtain ⟨GA,gc,rfl,_⟩:=Rd.own h2;obtain ⟨TA,tc,rfl,_⟩:=Rd.own h3;exact ⟨GA,gc,TA,tc,h1,h2,h3,h4⟩
end
set_option maxRecDepth 100000 in
set_option maxHeartbeats 1000000 in
theorem operandsO_any (op:Int) (w:World):Calls Tryz.prog 80 #[.int .i64 op] w fun e w'=>e=.returned (.int .i64 (operandsO op))∧w=w':=by
 by_cases h0:op=0
 ·subst h0;go_enter Tryz.func80,Tryz.ntmps80;go_wp2;go_ret;exact ⟨rfl,rfl⟩
 by_cases h1:op=1
 ·subst h1;go_enter Tryz.func80,Tryz.ntmps80;go_wp2;go_ret;exact ⟨rfl,rfl⟩
 by_cases h2:op=2
 ·subst h2;go_enter Tryz.func80,Tryz.ntmps80;go_wp2;go_ret;exact ⟨rfl,rfl⟩
 have HV:Hid (∀ _:Unit,operandsO op=2):=fun _=>by unfold operandsO;rw [if_neg (by omega),if_neg h2]
 go_enter Tryz.func80,Tryz.ntmps80;go_wp2;go_ret;exact ⟨ret_i64 (HV.out ()).symm,rfl⟩
theorem wk_added {W:World} {B b gn tn:Nat} {n z zv:Int} {s:Wk} {g:Gt} {GB TB:Option Addr} {gd td:Nat} (hg:∀ _:Unit,s.gates.length=gn) (ht:∀ _:Unit,s.tq.length=tn) (hr:Row W b 144 [.int .i64 n,.slice GB (gn+1) gd,.slice TB (tn+1) td])
 (ho:World.ownsRow W B 135 3 (.slice GB (gn+1) gd) (gn+1) (gatesCells s.gates ++ [.int .i64 g.op,.int .i64 g.a,.int .i64 g.b])) (h1:World.ownsRow W B 3 1 (.slice TB (tn+1) td) (tn+1) (ints s.tq ++ [.int .i64 zv])) (hb:B≤b) (hz:zv=if z < 0 then n+(s.gates.length:Int) else z):WkAt W B b n (addW n s (g,z)):=by
 refine ⟨_,_,hr,?_,?_,hb⟩
 ·show World.ownsRow W B _ 3 _ (s.gates ++ [g]).length (gatesCells (s.gates ++ [g]));rw [List.length_append,List.length_singleton,hg ()];have e:gatesCells (s.gates ++ [g])=gatesCells s.gates ++ [.int .i64 g.op,.int .i64 g.a,.int .i64 g.b]:=by simp [gatesCells,gtCells]
  rw [e];exact ho
 ·show World.ownsRow W B _ 1 _ (s.tq ++ [if z < 0 then n+(s.gates.length:Int) else z]).length (ints (s.tq ++ [if z < 0 then n+(s.gates.length:Int) else z]));rw [List.length_append,List.length_singleton,ht (),← hz];have e:ints (s.tq ++ [zv])=ints s.tq ++ [.int .i64 zv]:=by simp [ints]
  rw [e];exact h1
set_option maxRecDepth 100000 in
set_option maxHeartbeats 2000000 in
theorem add_any (B b:Nat) (n:Int) (s:Wk) (g:Gt) (z:Int) (w:World) (h:WkAt w B b n s) (hB:B≤w.heap.size) (hn:0≤n∧n≤1000) (hg:s.gates.length≤20000) (ht:s.tq.length≤30000):
 Calls Tryz.prog 82 #[.pointer (some ⟨b,0,none⟩),.agg #[.int .i64 g.op,.int .i64 g.a,.int .i64 g.b],.int .i64 z] w fun e w'=>e=.returned (.tuple #[])∧WkAt w' B b n (addW n s (g,z))∧WFr B w w':=by
 obtain ⟨GA,gc,TA,tc,hr,ho,ht1,hBb⟩:=h.op;have RL:=hiD hr;have OGw:=hiD ho;have OTw:=hiD ht1;clear hr ho ht1 h;have hbl:=RL.out.lt;generalize hgl:s.gates.length=gn at hg RL OGw;generalize htl:s.tq.length=tn at ht RL OTw;have HGL:=hiU hgl;have HTL:=hiU htl;clear hgl htl;by_cases hz:z < 0
 ·have HZ:Hid (∀ _:Unit,(n:Int)+(gn:Int)=if z < 0 then n+(s.gates.length:Int) else z):=fun _=>by rw [if_pos hz,HGL.out ()]
  obtain ⟨k0,k1,k2,kl⟩:=RL.out.cells3;have hw1:IntKind.i64.wrap (n+(gn:Int))=n+(gn:Int):=IntWalk.i64_in _ (by omega);go_enter Tryz.func82,Tryz.ntmps82;go_wp2_with fail;go_quiet (fail);clear k0 k1 k2 kl hw1;go_wp2_with fail;have Rx:Hid (Row (World.drewN (World.alloc w (.cells #[.int .i64 g.op,.int .i64 g.a,.int .i64 g.b] 135)) nq) b 144 [.int .i64 n,.slice GA gn gc,.slice TA tn tc]):=(RL.out.alloc _).drewN _;have Bx:Hid (Row (World.drewN (World.alloc w (.cells #[.int .i64 g.op,.int .i64 g.a,.int .i64 g.b] 135)) nq) w.heap.size 135 [.int .i64 g.op,.int .i64 g.a,.int .i64 g.b]):=(Row.new w 135 [.int .i64 g.op,.int .i64 g.a,.int .i64 g.b]).drewN _;have Ox:Hid (World.ownsRow (World.drewN (World.alloc w (.cells #[.int .i64 g.op,.int .i64 g.a,.int .i64 g.b] 135)) nq) B 135 3 (.slice GA gn gc) (gn) (gatesCells s.gates)):=OGw.out.alloc _;have Tx:Hid (World.ownsRow (World.drewN (World.alloc w (.cells #[.int .i64 g.op,.int .i64 g.a,.int .i64 g.b] 135)) nq) B 3 1 (.slice TA tn tc) (tn) (ints s.tq)):=OTw.out.alloc _;have Fx:Hid (WFr B w (World.drewN (World.alloc w (.cells #[.int .i64 g.op,.int .i64 g.a,.int .i64 g.b] 135)) nq)):=((WFr.refl B w).alloc hB _).drewN _
  have hsx0:Hid (B≤((World.drewN (World.alloc w (.cells #[.int .i64 g.op,.int .i64 g.a,.int .i64 g.b] 135)) nq)).heap.size):=(by show B≤(World.alloc w _).heap.size;rw [World.size_alloc];omega)
  clear hbl;revert Rx Bx Ox Tx Fx hsx0;generalize (World.drewN (World.alloc w (.cells #[.int .i64 g.op,.int .i64 g.a,.int .i64 g.b] 135)) nq)=wx;intro Rx Bx Ox Tx Fx hsx0;have hsx:B≤wx.heap.size:=hsx0.out;refine wp_region_L (fun w'=>Row w' b 144 [.int .i64 n,.slice GA gn gc,.slice TA tn tc]∧Row w' w.heap.size 135 [.int .i64 g.op,.int .i64 g.a,.int .i64 g.b]) [7,8,9,10] (by kernel_rfl) (by exact ⟨Rx.out.drew,Bx.out.drew⟩) (fun hHeld=>?_);have R3:Hid (Row wx.drew b 144 [.int .i64 n,.slice GA gn gc,.slice TA tn tc]):=Rx.out.drew;have B3:Hid (Row wx.drew w.heap.size 135 [.int .i64 g.op,.int .i64 g.a,.int .i64 g.b]):=Bx.out.drew;have O3:Hid (World.ownsRow wx.drew B 135 3 (.slice GA gn gc) (gn) (gatesCells s.gates)):=Ox.out;have T3:Hid (World.ownsRow wx.drew B 3 1 (.slice TA tn tc) (tn) (ints s.tq)):=Tx.out
  have F3:Hid (WFr B w wx.drew):=⟨Fx.out.below.drew,Fx.out.keep⟩
  have hs3:B≤wx.drew.heap.size:=hsx;clear Rx Bx Ox Tx Fx hsx;revert hHeld R3 B3 O3 T3 F3 hs3;generalize wx.drew=wQ;intro hHeld R3 B3 O3 T3 F3 hs3;refine lP 0 ?_;go_simp;refine lP 1 ?_;go_simp;refine lP 2 ?_;go_simp;refine lP 3 ?_;go_simp;refine lTakeW 4 ?va5 [[7],[8],[9],[10]] rfl (by rfl) ?ya5 hHeld ?ra5
  case ya5=>
   intro w' hSw;have hSh:=hiD hSw.1;have hSp:=hiD hSw.2;clear hSw;obtain ⟨z0,z1,z2,zl⟩:=hSh.out.cells3;obtain ⟨y0,y1,y2,yl⟩:=hSp.out.cells3;go_simp
   try (with_reducible rfl)
  go_simp;refine lTakeW 5 ?va6 [[7,6],[8],[9],[10]] rfl (by rfl) ?ya6 hHeld ?ra6
  case ya6=>
   intro w' hSw;have hSh:=hiD hSw.1;have hSp:=hiD hSw.2;clear hSw;obtain ⟨z0,z1,z2,zl⟩:=hSh.out.cells3;obtain ⟨y0,y1,y2,yl⟩:=hSp.out.cells3;go_simp
   try (with_reducible rfl)
  go_simp;refine restL_one (i:=6) (by kernel_rfl) rfl (fun K hK=>?_);go_simp;refine hK.out _ _ (fun _=>?keep) (fun hHeld=>?_)
  case keep=>exact ⟨R3.out.alloc _,B3.out.alloc _⟩
  have hHeld:=hHeld rfl;clear hK K
  try go_simp
  refine restL_one (i:=7) (by kernel_rfl) rfl (fun K hK=>?_);refine step_app rfl (.tmp 22) (.tmp 24) 34 rfl B 135 (.agg #[.int .i64 0,.int .i64 0,.int .i64 0]) 3 24 Tryz.underlying34 gate_infoZ rfl (by decide) (by decide) (.slice GA gn gc) gn (gatesCells s.gates) rfl ?own (wQ.heap.size+1) (some ⟨wQ.heap.size,0,none⟩) 1 1 [.int .i64 g.op,.int .i64 g.a,.int .i64 g.b] rfl ?rd ?one ?hb ?hbase ?_
  case own=>exact O3.out.alloc _
  case rd=>exact Rd.lit wQ #[.int .i64 g.op,.int .i64 g.a,.int .i64 g.b] 135 (sz:=3) (m:=1) rfl
  case one=>first | exact gate_oneZ _ _ _ | exact ⟨rfl,rfl,rfl⟩
  case hb=>omega
  case hbase=>first | (simp;omega) | omega
  intro v' w5 hown' hgrow' hat';obtain ⟨GB,gd,rfl,_⟩:=Rd.own hown';have R5:Hid (Row w5 b 144 [.int .i64 n,.slice GA gn gc,.slice TA tn tc]):=(R3.out.alloc _).grown hgrow' (fun e=>own_ne_row O3.out R3.out (by decide) e.symm);have O5:Hid (World.ownsRow w5 B 135 3 (.slice GB (gn+1) gd) (gn+1) (gatesCells s.gates ++ [.int .i64 g.op,.int .i64 g.a,.int .i64 g.b])):=hown';have T5:Hid (World.ownsRow w5 B 3 1 (.slice TA tn tc) (tn) (ints s.tq)):=own_grown (T3.out.alloc _) hgrow' (fun k hk e=>(own_ne_own T3.out O3.out (by decide)).elim (fun h=>by rw [h] at hk;cases hk) (fun h=>h (hk.trans e.symm)));have F5:Hid (WFr B w w5):=WFr.grown (F3.out.alloc hs3 _) (O3.out.alloc _) (.inl rfl) (Nat.le_refl _) (by simp;omega) hgrow';have hs5:B≤w5.heap.size:=Nat.le_trans (by simp;omega) hgrow'.size;have q1:=R5.out.cell 1;have qf:=R5.out.frozen 1;have ql:=R5.out.lt;simp only [List.getElem?_cons_zero,List.getElem?_cons_succ] at q1;clear hown' hgrow' hat' R3 B3 O3 T3 F3 hs3;refine hK.out _ _ (fun h=>absurd h (by decide)) (fun _=>?_);clear hK K
  try go_simp
  refine lP 8 ?_;go_simp;refine lP 9 ?_;go_simp;refine restL_one (i:=10) (by kernel_rfl) rfl (fun K hK=>?_);go_simp;refine hK.out _ _ (fun h=>absurd h (by decide)) (fun _=>?_);clear hK K
  try go_simp
  refine restL_done (by kernel_rfl) ?_ _;have R6:Hid (Row (World.setCell w5 ⟨b,1,none⟩ (.slice GB (gn+1) gd)) b 144 [.int .i64 n,.slice GB (gn+1) gd,.slice TA tn tc]):=R5.out.set 1 (.slice GB (gn+1) gd);have O6:Hid (World.ownsRow (World.setCell w5 ⟨b,1,none⟩ (.slice GB (gn+1) gd)) B 135 3 (.slice GB (gn+1) gd) (gn+1) (gatesCells s.gates ++ [.int .i64 g.op,.int .i64 g.a,.int .i64 g.b])):=own_set (p:=⟨b,1,none⟩) O5.out R5.out (by decide) _;have T6:Hid (World.ownsRow (World.setCell w5 ⟨b,1,none⟩ (.slice GB (gn+1) gd)) B 3 1 (.slice TA tn tc) (tn) (ints s.tq)):=own_set (p:=⟨b,1,none⟩) T5.out R5.out (by decide) _;have F6:Hid (WFr B w (World.setCell w5 ⟨b,1,none⟩ (.slice GB (gn+1) gd))):=WFr.set (p:=⟨b,1,none⟩) F5.out R5.out hBb _
  have hs6:Hid (B≤((World.setCell w5 ⟨b,1,none⟩ (.slice GB (gn+1) gd))).heap.size):=(by show _≤_;rw [World.size_setCell];exact hs5)
  clear R5 O5 T5 F5 q1 qf ql hs5;revert R6 O6 T6 F6 hs6;generalize (World.setCell w5 ⟨b,1,none⟩ (.slice GB (gn+1) gd))=w6;intro R6 O6 T6 F6 hs6;have hs6:B≤w6.heap.size:=hs6.out;obtain ⟨z0,z1,z2,zl⟩:=R6.out.cells3
  go_wp2_with (at_builtin;refine wpList_app rfl (.tmp 32) (.tmp 34) 22 rfl B 3 (.int .i64 0) 1 8 Tryz.underlying22 int_infoZ rfl (by decide) (by decide) (.slice TA tn tc) tn (ints s.tq) rfl ?own (w6.heap.size+1) (some ⟨w6.heap.size,0,none⟩) 1 1 [.int .i64 (n+(gn:Int))] rfl ?rd ?one ?hb ?hbase ?_)
  case own=>exact T6.out.alloc _
  case rd=>exact Rd.lit w6 #[.int .i64 (n+(gn:Int))] 3 (sz:=1) (m:=1) rfl
  case one=>first | (intro u hu;simp at hu;subst hu;rfl) | rfl
  case hb=>omega
  case hbase=>first | (simp;omega) | omega
  intro v' w5 hown' hgrow' hat';obtain ⟨TB,td,rfl,_⟩:=Rd.own hown';have R5:Hid (Row w5 b 144 [.int .i64 n,.slice GB (gn+1) gd,.slice TA tn tc]):=(R6.out.alloc _).grown hgrow' (fun e=>own_ne_row T6.out R6.out (by decide) e.symm);have T5:Hid (World.ownsRow w5 B 3 1 (.slice TB (tn+1) td) (tn+1) (ints s.tq ++ [.int .i64 (n+(gn:Int))])):=hown';have O5:Hid (World.ownsRow w5 B 135 3 (.slice GB (gn+1) gd) (gn+1) (gatesCells s.gates ++ [.int .i64 g.op,.int .i64 g.a,.int .i64 g.b])):=own_grown (O6.out.alloc _) hgrow' (fun k hk e=>(own_ne_own O6.out T6.out (by decide)).elim (fun h=>by rw [h] at hk;cases hk) (fun h=>h (hk.trans e.symm)));have F5:Hid (WFr B w w5):=WFr.grown (F6.out.alloc hs6 _) (T6.out.alloc _) (.inr rfl) (Nat.le_refl _) (by simp;omega) hgrow';clear hown' hgrow' hat' R6 O6 T6 F6 hs6 z0 z1 z2 zl;have q1:=R5.out.cell 2;have qf:=R5.out.frozen 2;have ql:=R5.out.lt;simp only [List.getElem?_cons_zero,List.getElem?_cons_succ] at q1;go_wp2_with fail;have R6:Hid (Row (World.setCell w5 ⟨b,2,none⟩ (.slice TB (tn+1) td)) b 144 [.int .i64 n,.slice GB (gn+1) gd,.slice TB (tn+1) td]):=R5.out.set 2 (.slice TB (tn+1) td);have O6:Hid (World.ownsRow (World.setCell w5 ⟨b,2,none⟩ (.slice TB (tn+1) td)) B 135 3 (.slice GB (gn+1) gd) (gn+1) (gatesCells s.gates ++ [.int .i64 g.op,.int .i64 g.a,.int .i64 g.b])):=own_set (p:=⟨b,2,none⟩) O5.out R5.out (by decide) _;have T6:Hid (World.ownsRow (World.setCell w5 ⟨b,2,none⟩ (.slice TB (tn+1) td)) B 3 1 (.slice TB (tn+1) td) (tn+1) (ints s.tq ++ [.int .i64 (n+(gn:Int))])):=own_set (p:=⟨b,2,none⟩) T5.out R5.out (by decide) _;have F6:Hid (WFr B w (World.setCell w5 ⟨b,2,none⟩ (.slice TB (tn+1) td))):=WFr.set (p:=⟨b,2,none⟩) F5.out R5.out hBb _;clear R5 O5 T5 F5 q1 qf ql;revert R6 O6 T6 F6;generalize (World.setCell w5 ⟨b,2,none⟩ (.slice TB (tn+1) td))=w7;intro R6 O6 T6 F6;go_end0;exact ⟨rfl,wk_added HGL.out HTL.out R6.out O6.out T6.out hBb (HZ.out ()),F6.out⟩
 ·have HZ:Hid (∀ _:Unit,z=if z < 0 then n+(s.gates.length:Int) else z):=fun _=>by rw [if_neg hz]
  go_enter Tryz.func82,Tryz.ntmps82;go_wp2_with fail;have Rx:Hid (Row (World.alloc w (.cells #[.int .i64 g.op,.int .i64 g.a,.int .i64 g.b] 135)) b 144 [.int .i64 n,.slice GA gn gc,.slice TA tn tc]):=RL.out.alloc _;have Bx:Hid (Row (World.alloc w (.cells #[.int .i64 g.op,.int .i64 g.a,.int .i64 g.b] 135)) w.heap.size 135 [.int .i64 g.op,.int .i64 g.a,.int .i64 g.b]):=Row.new w 135 [.int .i64 g.op,.int .i64 g.a,.int .i64 g.b];have Ox:Hid (World.ownsRow (World.alloc w (.cells #[.int .i64 g.op,.int .i64 g.a,.int .i64 g.b] 135)) B 135 3 (.slice GA gn gc) (gn) (gatesCells s.gates)):=OGw.out.alloc _;have Tx:Hid (World.ownsRow (World.alloc w (.cells #[.int .i64 g.op,.int .i64 g.a,.int .i64 g.b] 135)) B 3 1 (.slice TA tn tc) (tn) (ints s.tq)):=OTw.out.alloc _;have Fx:Hid (WFr B w (World.alloc w (.cells #[.int .i64 g.op,.int .i64 g.a,.int .i64 g.b] 135))):=(WFr.refl B w).alloc hB _
  have hsx0:Hid (B≤((World.alloc w (.cells #[.int .i64 g.op,.int .i64 g.a,.int .i64 g.b] 135))).heap.size):=(by show B≤(World.alloc w _).heap.size;rw [World.size_alloc];omega)
  clear hbl;revert Rx Bx Ox Tx Fx hsx0;generalize (World.alloc w (.cells #[.int .i64 g.op,.int .i64 g.a,.int .i64 g.b] 135))=wx;intro Rx Bx Ox Tx Fx hsx0;have hsx:B≤wx.heap.size:=hsx0.out;refine wp_region_L (fun w'=>Row w' b 144 [.int .i64 n,.slice GA gn gc,.slice TA tn tc]∧Row w' w.heap.size 135 [.int .i64 g.op,.int .i64 g.a,.int .i64 g.b]) [7,8,9,10] (by kernel_rfl) (by exact ⟨Rx.out.drew,Bx.out.drew⟩) (fun hHeld=>?_);have R3:Hid (Row wx.drew b 144 [.int .i64 n,.slice GA gn gc,.slice TA tn tc]):=Rx.out.drew;have B3:Hid (Row wx.drew w.heap.size 135 [.int .i64 g.op,.int .i64 g.a,.int .i64 g.b]):=Bx.out.drew;have O3:Hid (World.ownsRow wx.drew B 135 3 (.slice GA gn gc) (gn) (gatesCells s.gates)):=Ox.out;have T3:Hid (World.ownsRow wx.drew B 3 1 (.slice TA tn tc) (tn) (ints s.tq)):=Tx.out
  have F3:Hid (WFr B w wx.drew):=⟨Fx.out.below.drew,Fx.out.keep⟩
  have hs3:B≤wx.drew.heap.size:=hsx;clear Rx Bx Ox Tx Fx hsx;revert hHeld R3 B3 O3 T3 F3 hs3;generalize wx.drew=wQ;intro hHeld R3 B3 O3 T3 F3 hs3;refine lP 0 ?_;go_simp;refine lP 1 ?_;go_simp;refine lP 2 ?_;go_simp;refine lP 3 ?_;go_simp;refine lTakeW 4 ?vd5 [[7],[8],[9],[10]] rfl (by rfl) ?yd5 hHeld ?rd5
  case yd5=>
   intro w' hSw;have hSh:=hiD hSw.1;have hSp:=hiD hSw.2;clear hSw;obtain ⟨z0,z1,z2,zl⟩:=hSh.out.cells3;obtain ⟨y0,y1,y2,yl⟩:=hSp.out.cells3;go_simp
   try (with_reducible rfl)
  go_simp;refine lTakeW 5 ?vd6 [[7,6],[8],[9],[10]] rfl (by rfl) ?yd6 hHeld ?rd6
  case yd6=>
   intro w' hSw;have hSh:=hiD hSw.1;have hSp:=hiD hSw.2;clear hSw;obtain ⟨z0,z1,z2,zl⟩:=hSh.out.cells3;obtain ⟨y0,y1,y2,yl⟩:=hSp.out.cells3;go_simp
   try (with_reducible rfl)
  go_simp;refine restL_one (i:=6) (by kernel_rfl) rfl (fun K hK=>?_);go_simp;refine hK.out _ _ (fun _=>?keep) (fun hHeld=>?_)
  case keep=>exact ⟨R3.out.alloc _,B3.out.alloc _⟩
  have hHeld:=hHeld rfl;clear hK K
  try go_simp
  refine restL_one (i:=7) (by kernel_rfl) rfl (fun K hK=>?_);refine step_app rfl (.tmp 22) (.tmp 24) 34 rfl B 135 (.agg #[.int .i64 0,.int .i64 0,.int .i64 0]) 3 24 Tryz.underlying34 gate_infoZ rfl (by decide) (by decide) (.slice GA gn gc) gn (gatesCells s.gates) rfl ?own (wQ.heap.size+1) (some ⟨wQ.heap.size,0,none⟩) 1 1 [.int .i64 g.op,.int .i64 g.a,.int .i64 g.b] rfl ?rd ?one ?hb ?hbase ?_
  case own=>exact O3.out.alloc _
  case rd=>exact Rd.lit wQ #[.int .i64 g.op,.int .i64 g.a,.int .i64 g.b] 135 (sz:=3) (m:=1) rfl
  case one=>first | exact gate_oneZ _ _ _ | exact ⟨rfl,rfl,rfl⟩
  case hb=>omega
  case hbase=>first | (simp;omega) | omega
  intro v' w5 hown' hgrow' hat';obtain ⟨GB,gd,rfl,_⟩:=Rd.own hown';have R5:Hid (Row w5 b 144 [.int .i64 n,.slice GA gn gc,.slice TA tn tc]):=(R3.out.alloc _).grown hgrow' (fun e=>own_ne_row O3.out R3.out (by decide) e.symm);have O5:Hid (World.ownsRow w5 B 135 3 (.slice GB (gn+1) gd) (gn+1) (gatesCells s.gates ++ [.int .i64 g.op,.int .i64 g.a,.int .i64 g.b])):=hown';have T5:Hid (World.ownsRow w5 B 3 1 (.slice TA tn tc) (tn) (ints s.tq)):=own_grown (T3.out.alloc _) hgrow' (fun k hk e=>(own_ne_own T3.out O3.out (by decide)).elim (fun h=>by rw [h] at hk;cases hk) (fun h=>h (hk.trans e.symm)));have F5:Hid (WFr B w w5):=WFr.grown (F3.out.alloc hs3 _) (O3.out.alloc _) (.inl rfl) (Nat.le_refl _) (by simp;omega) hgrow';have hs5:B≤w5.heap.size:=Nat.le_trans (by simp;omega) hgrow'.size;have q1:=R5.out.cell 1;have qf:=R5.out.frozen 1;have ql:=R5.out.lt;simp only [List.getElem?_cons_zero,List.getElem?_cons_succ] at q1;clear hown' hgrow' hat' R3 B3 O3 T3 F3 hs3;refine hK.out _ _ (fun h=>absurd h (by decide)) (fun _=>?_);clear hK K
  try go_simp
  refine lP 8 ?_;go_simp;refine lP 9 ?_;go_simp;refine restL_one (i:=10) (by kernel_rfl) rfl (fun K hK=>?_);go_simp;refine hK.out _ _ (fun h=>absurd h (by decide)) (fun _=>?_);clear hK K
  try go_simp
  refine restL_done (by kernel_rfl) ?_ _;have R6:Hid (Row (World.setCell w5 ⟨b,1,none⟩ (.slice GB (gn+1) gd)) b 144 [.int .i64 n,.slice GB (gn+1) gd,.slice TA tn tc]):=R5.out.set 1 (.slice GB (gn+1) gd);have O6:Hid (World.ownsRow (World.setCell w5 ⟨b,1,none⟩ (.slice GB (gn+1) gd)) B 135 3 (.slice GB (gn+1) gd) (gn+1) (gatesCells s.gates ++ [.int .i64 g.op,.int .i64 g.a,.int .i64 g.b])):=own_set (p:=⟨b,1,none⟩) O5.out R5.out (by decide) _;have T6:Hid (World.ownsRow (World.setCell w5 ⟨b,1,none⟩ (.slice GB (gn+1) gd)) B 3 1 (.slice TA tn tc) (tn) (ints s.tq)):=own_set (p:=⟨b,1,none⟩) T5.out R5.out (by decide) _;have F6:Hid (WFr B w (World.setCell w5 ⟨b,1,none⟩ (.slice GB (gn+1) gd))):=WFr.set (p:=⟨b,1,none⟩) F5.out R5.out hBb _
  have hs6:Hid (B≤((World.setCell w5 ⟨b,1,none⟩ (.slice GB (gn+1) gd))).heap.size):=(by show _≤_;rw [World.size_setCell];exact hs5)
  clear R5 O5 T5 F5 q1 qf ql hs5;revert R6 O6 T6 F6 hs6;generalize (World.setCell w5 ⟨b,1,none⟩ (.slice GB (gn+1) gd))=w6;intro R6 O6 T6 F6 hs6;have hs6:B≤w6.heap.size:=hs6.out;obtain ⟨z0,z1,z2,zl⟩:=R6.out.cells3
  go_wp2_with (at_builtin;refine wpList_app rfl (.tmp 32) (.tmp 34) 22 rfl B 3 (.int .i64 0) 1 8 Tryz.underlying22 int_infoZ rfl (by decide) (by decide) (.slice TA tn tc) tn (ints s.tq) rfl ?own (w6.heap.size+1) (some ⟨w6.heap.size,0,none⟩) 1 1 [.int .i64 (z)] rfl ?rd ?one ?hb ?hbase ?_)
  case own=>exact T6.out.alloc _
  case rd=>exact Rd.lit w6 #[.int .i64 (z)] 3 (sz:=1) (m:=1) rfl
  case one=>first | (intro u hu;simp at hu;subst hu;rfl) | rfl
  case hb=>omega
  case hbase=>first | (simp;omega) | omega
  intro v' w5 hown' hgrow' hat';obtain ⟨TB,td,rfl,_⟩:=Rd.own hown';have R5:Hid (Row w5 b 144 [.int .i64 n,.slice GB (gn+1) gd,.slice TA tn tc]):=(R6.out.alloc _).grown hgrow' (fun e=>own_ne_row T6.out R6.out (by decide) e.symm);have T5:Hid (World.ownsRow w5 B 3 1 (.slice TB (tn+1) td) (tn+1) (ints s.tq ++ [.int .i64 (z)])):=hown';have O5:Hid (World.ownsRow w5 B 135 3 (.slice GB (gn+1) gd) (gn+1) (gatesCells s.gates ++ [.int .i64 g.op,.int .i64 g.a,.int .i64 g.b])):=own_grown (O6.out.alloc _) hgrow' (fun k hk e=>(own_ne_own O6.out T6.out (by decide)).elim (fun h=>by rw [h] at hk;cases hk) (fun h=>h (hk.trans e.symm)));have F5:Hid (WFr B w w5):=WFr.grown (F6.out.alloc hs6 _) (T6.out.alloc _) (.inr rfl) (Nat.le_refl _) (by simp;omega) hgrow';clear hown' hgrow' hat' R6 O6 T6 F6 hs6 z0 z1 z2 zl;have q1:=R5.out.cell 2;have qf:=R5.out.frozen 2;have ql:=R5.out.lt;simp only [List.getElem?_cons_zero,List.getElem?_cons_succ] at q1;go_wp2_with fail;have R6:Hid (Row (World.setCell w5 ⟨b,2,none⟩ (.slice TB (tn+1) td)) b 144 [.int .i64 n,.slice GB (gn+1) gd,.slice TB (tn+1) td]):=R5.out.set 2 (.slice TB (tn+1) td);have O6:Hid (World.ownsRow (World.setCell w5 ⟨b,2,none⟩ (.slice TB (tn+1) td)) B 135 3 (.slice GB (gn+1) gd) (gn+1) (gatesCells s.gates ++ [.int .i64 g.op,.int .i64 g.a,.int .i64 g.b])):=own_set (p:=⟨b,2,none⟩) O5.out R5.out (by decide) _;have T6:Hid (World.ownsRow (World.setCell w5 ⟨b,2,none⟩ (.slice TB (tn+1) td)) B 3 1 (.slice TB (tn+1) td) (tn+1) (ints s.tq ++ [.int .i64 (z)])):=own_set (p:=⟨b,2,none⟩) T5.out R5.out (by decide) _;have F6:Hid (WFr B w (World.setCell w5 ⟨b,2,none⟩ (.slice TB (tn+1) td))):=WFr.set (p:=⟨b,2,none⟩) F5.out R5.out hBb _;clear R5 O5 T5 F5 q1 qf ql;revert R6 O6 T6 F6;generalize (World.setCell w5 ⟨b,2,none⟩ (.slice TB (tn+1) td))=w7;intro R6 O6 T6 F6;go_end0;exact ⟨rfl,wk_added HGL.out HTL.out R6.out O6.out T6.out hBb (HZ.out ()),F6.out⟩
end Go.Proofs.YtbijfnbelkbofaaGreatDoor
namespace Go.Proofs.YtbijfnbelkbofaaGreatDoor
open Go.RowKit
theorem isW_at (n:Int) (gs:List Gt) (k:Nat) (op:Int):isW n gs (n+(k:Int)) op=decide ((gs.getD k default).op=op):=by
 unfold isW;rw [show n+(k:Int) - n=(k:Int) by omega,Int.toNat_natCast,decide_eq_true (by omega:n≤n+(k:Int)),Bool.true_and]
theorem argW_at (n:Int) (gs:List Gt) (k:Nat):argW n gs (n+(k:Int))=(gs.getD k default).a:=by
 unfold argW;rw [show n+(k:Int) - n=(k:Int) by omega,Int.toNat_natCast]
theorem isW_low {n:Int} {gs:List Gt} {x op:Int} (h:¬ n≤x):isW n gs x op=false:=by unfold isW;rw [decide_eq_false h,Bool.false_and]
set_option maxRecDepth 100000 in
set_option maxHeartbeats 2000000 in
theorem is_any (B b:Nat) (n:Int) (s:Wk) (x op:Int) (w:World) (h:WkAt w B b n s) (hn:0≤n∧n≤1000) (hg:s.gates.length≤20000) (hx:x < n+s.gates.length) (hx0:-1000000≤x):
 Calls Tryz.prog 126 #[.pointer (some ⟨b,0,none⟩),.int .i64 x,.int .i64 op] w fun e w'=>e=.returned (.bool (isW n s.gates x op))∧Below w.heap.size w w':=by
 obtain ⟨GA,gc,TA,tc,hr,ho,ht1,hBb⟩:=h.op;have RL:=hiD hr;clear hr ht1 h;obtain ⟨k0,k1,k2,kl⟩:=RL.out.cells3;by_cases hle:n≤x
 ·obtain ⟨j,rfl⟩:∃ j:Nat,x=n+(j:Int):=⟨(x - n).toNat,by omega⟩
  have hj:j < s.gates.length:=by omega
  obtain ⟨ad,rfl,hab,c0,_,_⟩:=(Rd.of_own ho).gate hj;have HV:Hid (∀ _:Unit,isW n s.gates (n+(j:Int)) op=decide ((s.gates.getD j default).op=op)):=fun _=>isW_at _ _ _ _
  generalize (s.gates.getD j default).op=z at c0 HV;generalize s.gates.length=gn at hj hg k1;have hd:decide (n≤n+(j:Int))=true:=decide_eq_true hle;have hi1:(j:Int) < (gn:Int):=by omega
  have hw1:IntKind.i64.wrap (n+(j:Int) - n)=(j:Int):=by
   rw [show n+(j:Int) - n=(j:Int) by omega];exact IntWalk.i64_in _ (by omega)
  clear hx hle ho;go_enter Tryz.func126,Tryz.ntmps126;go_wp2_with fail;go_quiet (fail);go_wp2_with fail;go_ret;exact ⟨ret_bool (by rw [HV.out ()];first | rfl | (simp;done) | (rw [Bool.eq_iff_iff];simp;omega)),below_drewN (Below.refl _ _) _⟩
 ·have HV:Hid (∀ _:Unit,isW n s.gates x op=false):=fun _=>isW_low hle
  have hd:decide (n≤x)=false:=decide_eq_false hle;clear hx ho;go_enter Tryz.func126,Tryz.ntmps126;go_wp2_with fail;go_quiet (fail);go_wp2_with fail;go_ret;exact ⟨ret_bool (by rw [HV.out ()]),below_drewN (Below.refl _ _) _⟩
set_option maxRecDepth 100000 in
set_option maxHeartbeats 2000000 in
theorem neg_any (B b pb:Nat) (n:Int) (s:Wk) (x y:Int) (w:World) (h:WkAt w B b n s) (hP:Row w pb 139 [.pointer (some ⟨b,0,none⟩)]) (hn:0≤n∧n≤1000) (hg:s.gates.length≤20000) (hx:x < n+s.gates.length) (hx0:-1000000≤x):
 Calls Tryz.prog 156 #[.int .i64 x,.int .i64 y,.pointer (some ⟨pb,0,none⟩)] w fun e w'=>e=.returned (.bool (negW n s.gates x y))∧Below w.heap.size w w':=by
 obtain ⟨GA,gc,TA,tc,hr,ho,ht1,hBb⟩:=h.op;have HW:=hiD h;have RL:=hiD hr;have RP:=hiD hP;clear hr ht1 h hP
 obtain ⟨q,hq⟩:∃ q,isW n s.gates x 2=q:=⟨_,rfl⟩
 have HIS:=hiU hq
 cases q
 ·have HV:Hid (∀ _:Unit,negW n s.gates x y=false):=fun _=>by unfold negW;rw [hq,Bool.false_and]
  clear hq ho;go_enter Tryz.func156,Tryz.ntmps156;go_wp2_with fail;have hu:undef=Value.tuple #[]:=rfl;refine wp_region_L (fun w'=>Row w' (b) 144 [.int .i64 n,.slice GA s.gates.length gc,.slice TA s.tq.length tc]∧Row w' (pb) 139 [.pointer (some ⟨b,0,none⟩)]) [] (by kernel_rfl) (by exact ⟨Row.drew RL.out,Row.drew RP.out⟩) (fun hHeld=>?_);have B_w:Hid (Below w.heap.size w (World.drew w)):=(Below.refl _ _).drew;revert hHeld B_w;generalize World.drew w=wq;intro hHeld B_w;refine lP 1 ?_;go_simp;refine lTakeW 0 ?va2 [] rfl (by rfl) ?ya2 hHeld ?ra2
  case ya2=>
   intro w' hSw;obtain ⟨hS0,hS1⟩:=hSw;have hT0:=hiD hS0;clear hS0;obtain ⟨z0_0,z0_1,z0_2,z0_l⟩:=hT0.out.cells3;have hT1:=hiD hS1;clear hS1;obtain ⟨z1_0,z1_l⟩:=hT1.out.cells1;go_simp
   try (with_reducible rfl)
  go_simp;refine restL_one (i:=2) (by kernel_rfl) rfl (fun K hK=>?_);go_simp
  go_at_call 126
  have HC:=is_any B b n s x 2 wq ((HW.out.below B_w.out)) hn hg hx hx0;rw [HIS.out ()] at HC;refine HC.mono ?_;clear HC;rintro e w1 ⟨rfl,hb⟩;have B_w:=hiD (below_on2 B_w.out hb);clear hb;clear hHeld;refine hK.out _ _ (fun _=>?keep) (fun hHeld=>?_)
  case keep=>exact ⟨(rowCells RL.out B_w.out),(rowCells RP.out B_w.out)⟩
  have hHeld:=hHeld rfl;clear hK K
  try go_simp
  refine lP 3 ?_;go_simp;refine lN 8 ?_;go_simp;refine lN 17 ?_;go_simp;refine lTakeU 4 [] rfl (by go_simp) hHeld ?_;go_simp;refine lN 5 ?_;go_simp;refine lN 6 ?_;go_simp;refine lTakeU 7 [] rfl (by go_simp) hHeld ?_;go_simp;refine lTakeU 9 [] rfl (by go_simp) hHeld ?_;go_simp;refine lN 10 ?_;go_simp;refine lN 11 ?_;go_simp;refine lTakeU 12 [] rfl (by go_simp) hHeld ?_;go_simp;refine lN 13 ?_;go_simp;refine lTakeU 14 [] rfl (by go_simp) hHeld ?_;go_simp;refine lN 15 ?_;go_simp;refine lTakeU 16 [] rfl (by go_simp) hHeld ?_;go_simp;refine lN 18 ?_;go_simp;refine lP 19 ?_;go_simp;refine lP 20 ?_;go_simp;refine restL_done (by kernel_rfl) ?_ _;clear hu;go_wp2_with fail;go_ret;exact ⟨ret_bool (by rw [HV.out ()]),B_w.out⟩
 ·have hle:n≤x:=by
   unfold isW at hq;rw [Bool.and_eq_true,decide_eq_true_iff] at hq;exact hq.1
  obtain ⟨j,rfl⟩:∃ j:Nat,x=n+(j:Int):=⟨(x - n).toNat,by omega⟩
  have hj:j < s.gates.length:=by omega
  obtain ⟨ad,rfl,hab,_,c1,_⟩:=(Rd.of_own ho).gate hj;have HV:Hid (∀ _:Unit,negW n s.gates (n+(j:Int)) y=decide ((s.gates.getD j default).a=y)):=fun _=>by unfold negW;rw [hq,Bool.true_and,argW_at]
  have HC1:Hid (∀ W9,Below w.heap.size w W9→W9.cell? ⟨(ad.add (j * 3)).block,(ad.add (j * 3)).off+1,none⟩=some (.int .i64 (s.gates.getD j default).a)):=fun W9 h9=>(h9.cell (by show (ad.add (j * 3)).block < _;rw [add_block];exact hab)).trans c1
  have hi1:(j:Int) < (s.gates.length:Int):=by omega
  have hw1:IntKind.i64.wrap (n+(j:Int) - n)=(j:Int):=by
   rw [show n+(j:Int) - n=(j:Int) by omega];exact IntWalk.i64_in _ (by omega)
  clear hq ho c1 hle;generalize hz:(s.gates.getD j default).a=z at HC1 HV;clear hz;go_enter Tryz.func156,Tryz.ntmps156;go_wp2_with fail;refine wp_region_L (fun w'=>Row w' (b) 144 [.int .i64 n,.slice (some ad) s.gates.length gc,.slice TA s.tq.length tc]∧Row w' (pb) 139 [.pointer (some ⟨b,0,none⟩)]∧w'.cell? ⟨(ad.add (j * 3)).block,(ad.add (j * 3)).off+1,none⟩=some (.int .i64 z)) [] (by kernel_rfl) (by exact ⟨Row.drew RL.out,Row.drew RP.out,HC1.out _ (by first | exact (Below.refl _ _) | exact (Below.refl _ _).drew)⟩) (fun hHeld=>?_);have B_w:Hid (Below w.heap.size w (World.drew w)):=(Below.refl _ _).drew;revert hHeld B_w;generalize World.drew w=wq;intro hHeld B_w;refine lP 1 ?_;go_simp;refine lTakeW 0 ?vb2 [] rfl (by rfl) ?yb2 hHeld ?rb2
  case yb2=>
   intro w' hSw;obtain ⟨hS0,hS1,hF0⟩:=hSw;have hT0:=hiD hS0;clear hS0;obtain ⟨z0_0,z0_1,z0_2,z0_l⟩:=hT0.out.cells3;have hT1:=hiD hS1;clear hS1;obtain ⟨z1_0,z1_l⟩:=hT1.out.cells1;go_simp
   try (with_reducible rfl)
  go_simp;refine restL_one (i:=2) (by kernel_rfl) rfl (fun K hK=>?_);go_simp
  go_at_call 126
  have HC:=is_any B b n s (n+(j:Int)) 2 wq ((HW.out.below B_w.out)) hn hg hx hx0;rw [HIS.out ()] at HC;refine HC.mono ?_;clear HC;rintro e w1 ⟨rfl,hb⟩;have B_w:=hiD (below_on2 B_w.out hb);clear hb;clear hHeld;refine hK.out _ _ (fun _=>?keep) (fun hHeld=>?_)
  case keep=>exact ⟨(rowCells RL.out B_w.out),(rowCells RP.out B_w.out),HC1.out _ (by first | exact B_w.out | exact (Below.refl _ _).drew)⟩
  have hHeld:=hHeld rfl;clear hK K
  try go_simp
  refine lP 3 ?_;go_simp;refine lP 8 ?_;go_simp;refine lP 17 ?_;go_simp;refine lTakeW 4 ?vb6 [] rfl (by first | rfl | (go_simp;done)) ?yb6 hHeld ?rb6
  case yb6=>
   intro w' hSw;obtain ⟨hS0,hS1,hF0⟩:=hSw;have hT0:=hiD hS0;clear hS0;obtain ⟨z0_0,z0_1,z0_2,z0_l⟩:=hT0.out.cells3;have hT1:=hiD hS1;clear hS1;obtain ⟨z1_0,z1_l⟩:=hT1.out.cells1;go_simp
   try (with_reducible rfl)
  go_simp;refine lP 5 ?_;go_simp;refine lP 6 ?_;go_simp;refine lTakeW 7 ?vb9 [] rfl (by first | rfl | (go_simp;done)) ?yb9 hHeld ?rb9
  case yb9=>
   intro w' hSw;obtain ⟨hS0,hS1,hF0⟩:=hSw;have hT0:=hiD hS0;clear hS0;obtain ⟨z0_0,z0_1,z0_2,z0_l⟩:=hT0.out.cells3;have hT1:=hiD hS1;clear hS1;obtain ⟨z1_0,z1_l⟩:=hT1.out.cells1;go_simp
   try (with_reducible rfl)
  go_simp;refine lTakeW 9 ?vb10 [] rfl (by first | rfl | (go_simp;done)) ?yb10 hHeld ?rb10
  case yb10=>
   intro w' hSw;obtain ⟨hS0,hS1,hF0⟩:=hSw;have hT0:=hiD hS0;clear hS0;obtain ⟨z0_0,z0_1,z0_2,z0_l⟩:=hT0.out.cells3;have hT1:=hiD hS1;clear hS1;obtain ⟨z1_0,z1_l⟩:=hT1.out.cells1;go_simp
   try (with_reducible rfl)
  go_simp;refine lP 10 ?_;go_simp;refine lP 11 ?_;go_simp;refine lTakeW 12 ?vb13 [] rfl (by first | rfl | (go_simp;done)) ?yb13 hHeld ?rb13
  case yb13=>
   intro w' hSw;obtain ⟨hS0,hS1,hF0⟩:=hSw;have hT0:=hiD hS0;clear hS0;obtain ⟨z0_0,z0_1,z0_2,z0_l⟩:=hT0.out.cells3;have hT1:=hiD hS1;clear hS1;obtain ⟨z1_0,z1_l⟩:=hT1.out.cells1;go_simp
   try (with_reducible rfl)
  go_simp;refine lP 13 ?_;go_simp;refine lTakeW 14 ?vb15 [] rfl (by first | rfl | (go_simp;done)) ?yb15 hHeld ?rb15
  case yb15=>
   intro w' hSw;obtain ⟨hS0,hS1,hF0⟩:=hSw;have hT0:=hiD hS0;clear hS0;obtain ⟨z0_0,z0_1,z0_2,z0_l⟩:=hT0.out.cells3;have hT1:=hiD hS1;clear hS1;obtain ⟨z1_0,z1_l⟩:=hT1.out.cells1;go_simp
   try (with_reducible rfl)
  go_simp;refine lP 15 ?_;go_simp;refine lTakeW 16 ?vb17 [] rfl (by first | rfl | (go_simp;done)) ?yb17 hHeld ?rb17
  case yb17=>
   intro w' hSw;obtain ⟨hS0,hS1,hF0⟩:=hSw;have hT0:=hiD hS0;clear hS0;obtain ⟨z0_0,z0_1,z0_2,z0_l⟩:=hT0.out.cells3;have hT1:=hiD hS1;clear hS1;obtain ⟨z1_0,z1_l⟩:=hT1.out.cells1;go_simp
   try (with_reducible rfl)
  go_simp;refine lP 18 ?_;go_simp;refine lP 19 ?_;go_simp;refine lP 20 ?_;go_simp;refine restL_done (by kernel_rfl) ?_ _;go_wp2_with fail;go_ret;exact ⟨ret_bool (by rw [HV.out ()];first | rfl | (simp;done) | (rw [Bool.eq_iff_iff];simp;omega)),B_w.out⟩
set_option maxRecDepth 100000 in
set_option maxHeartbeats 2000000 in
theorem opp_any (B b:Nat) (n:Int) (s:Wk) (x y:Int) (w:World) (h:WkAt w B b n s) (hn:0≤n∧n≤1000) (hg:s.gates.length≤20000) (hx:x < n+s.gates.length) (hx0:-1000000≤x) (hy:y < n+s.gates.length) (hy0:-1000000≤y):
 Calls Tryz.prog 127 #[.pointer (some ⟨b,0,none⟩),.int .i64 x,.int .i64 y] w fun e w'=>e=.returned (.bool (oppW n s.gates x y))∧Below w.heap.size w w':=by
 have HW:=hiD h;clear h;go_enter Tryz.func127,Tryz.ntmps127;go_wp2_with fail;obtain ⟨wa,hW9,RP,hgr9⟩:=laid1 w [.pointer (some ⟨b,0,none⟩)] 139;rewrite [hW9];clear hW9;have B_w:=hiD hgr9;clear hgr9;have HC:=neg_any B b w.heap.size n s x y wa (HW.out.below B_w.out) RP.out hn hg hx hx0
 obtain ⟨q,hq⟩:∃ q,negW n s.gates x y=q:=⟨_,rfl⟩
 rw [hq] at HC;refine HC.mono ?_;clear HC;rintro e w1 ⟨rfl,hb⟩;have B_w:=hiD (below_on2 B_w.out hb);have B_wa:=hiD hb;clear hb
 cases q
 ·have HV:Hid (∀ _:Unit,oppW n s.gates x y=negW n s.gates y x):=fun _=>by unfold oppW;rw [hq,Bool.false_or]
  clear hq;go_wp2_with fail;have HC:=neg_any B b w.heap.size n s y x w1 (HW.out.below B_w.out) (rowCells RP.out B_wa.out) hn hg hy hy0;refine HC.mono ?_;clear HC;rintro e w2 ⟨rfl,hb⟩;have B_w:=hiD (below_on2 B_w.out hb);clear hb;go_wp2_with fail;go_ret;exact ⟨ret_bool (by rw [HV.out ()]),B_w.out⟩
 ·have HV:Hid (∀ _:Unit,oppW n s.gates x y=true):=fun _=>by unfold oppW;rw [hq,Bool.true_or]
  clear hq;go_wp2_with fail;go_ret;exact ⟨ret_bool (by rw [HV.out ()]),B_w.out⟩
end Go.Proofs.YtbijfnbelkbofaaGreatDoor
