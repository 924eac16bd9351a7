/-
 A part.
-/
import Derived.Test.YtiemhbogbaamlaaYF1
import Derived.Test.YtiemhbogbaamlaaYF4
import Derived.Test.YtiemhbogbaamlaaYF7
import Derived.Test.YtiemhbogbaamlaaProg
import Derived.BigRegion
import Derived.BigQuiet
import Derived.StillTailTactics
set_option linter.unusedSimpArgs false
set_option linter.unusedVariables false
namespace Go.Proofs.Ytiemhbogbaamlaa
open Go.RowKit
theorem gate_infoZ:(Try.prog.info? 77).map (fun i=>(i.zero,i.size,i.bytes))=some (some (.agg #[.int .i64 0,.int .i64 0,.int .i64 0]),3,24):=by kernel_rfl
theorem int_infoZ:(Try.prog.info? 3).map (fun i=>(i.zero,i.size,i.bytes))=some (some (.int .i64 0),1,8):=by kernel_rfl
theorem gate_oneZ (x y z:Int):∀ u ∈ [Value.int .i64 x,Value.int .i64 y,Value.int .i64 z],u.oneCell'=true:=by
 intro u hu
 simp only [List.mem_cons,List.not_mem_nil,or_false] at hu
 rcases hu with rfl | rfl | rfl <;> rfl
def WkAt (W:World) (B b:Nat) (n:Int) (s:Wk):Prop:=
 ∃ gv tv,Row W b 115 [.int .i64 n,gv,tv]∧World.ownsRow W B 77 3 (gv) (s.gates.length) (gatesCells s.gates)∧World.ownsRow W B 3 1 (tv) (s.to.length) (ints s.to)∧B≤b
structure WFr (B:Nat) (w w':World):Prop where
 below:Below B w w'
 keep:∀ (k:Nat) (o:Obj),w.heap[k]?=some o→(∀ cs T fz,o=.cells cs T fz→T≠115∧T≠77∧T≠3)→w'.heap[k]?=some o
section
variable {B b:Nat} {w w1 w':World} {n:Int} {s:Wk}
theorem WFr.refl (B:Nat) (w:World):WFr B w w:=⟨Below.refl _ _,fun _ _ h _=>h⟩
theorem WFr.trans (h:WFr B w w1) (k:WFr B w1 w'):WFr B w w':=⟨h.below.trans k.below,fun g o hg ho=>k.keep g o (h.keep g o hg ho) ho⟩
theorem WFr.ofBelow (h:Below w.heap.size w w') (hB:B≤w.heap.size):WFr B w w':=⟨h.mono hB,fun k o hk _=>by rw [h.block k (heap_lt hk)];exact hk⟩
theorem WFr.drewN (h:WFr B w w1) (k:Nat):WFr B w (w1.drewN k):=⟨below_drewN h.below k,h.keep⟩
theorem WFr.alloc (h:WFr B w w1) (hB:B≤w1.heap.size) (o:Obj):WFr B w (w1.alloc o):=⟨h.below.alloc hB o,fun k o' hk ho=>by
 have:=h.keep k o' hk ho
 rw [Below.heap_alloc w1 o k (heap_lt this)];exact this⟩
theorem WFr.set {xs:List Value} {p:Addr} (h:WFr B w w1) (hr:Row w1 p.block 115 xs) (hB:B≤p.block) (u:Value):WFr B w (w1.setCell p u):=
 ⟨h.below.setCell hB u,fun k o hk ho=>by
  have h1:=h.keep k o hk ho
  rw [Below.heap_setCell w1 p u k (fun e=>by
   subst e
   unfold Row at hr
   rw [hr] at h1
   exact (ho _ _ _ (Option.some.inj h1).symm).1 rfl)]
  exact h1⟩
theorem WFr.grown {base sz m:Nat} {e:TypeId} {v:Value} {xs:List Value} (h:WFr B w w1) (ho:w1.ownsRow base e sz v m xs) (he:e=77∨e=3) (hB:B≤base) (hS:B≤w1.heap.size) (hg:w1.grownBy w' v.ownBlock):WFr B w w':=by
 refine ⟨h.below.grown hg hS (fun k hk=>Nat.le_trans hB (own_block_type ho hk).choose_spec.2),fun k o hk hoo=>?_⟩
 have h1:=h.keep k o hk hoo
 rw [hg.block k (heap_lt h1) (fun e2=>by
  obtain ⟨cur,hc,_⟩:=own_block_type ho e2.symm
  rw [hc] at h1
  have:=hoo _ _ _ (Option.some.inj h1).symm
  rcases he with rfl | rfl
  ·exact this.2.1 rfl
  ·exact this.2.2 rfl)]
 exact h1
theorem WFr.row {g:Nat} {T:TypeId} {xs:List Value} (h:WFr B w w') (hr:Row w g T xs) (h1:T≠115) (h2:T≠77) (h3:T≠3):Row w' g T xs:=
 h.keep g _ hr (fun cs T' fz e=>by cases e;exact ⟨h1,h2,h3⟩)
theorem WkAt.blk (h:WkAt w B b n s):b < w.heap.size∧B≤b:=by
 obtain ⟨gv,tv,h1,_,_,h3⟩:=h
 exact ⟨h1.lt,h3⟩
theorem WkAt.keep (h:WkAt w B b n s) (hb:∀ k,k < w.heap.size→w'.heap[k]?=w.heap[k]?):WkAt w' B b n s:=by
 obtain ⟨gv,tv,h1,h2,h3,h4⟩:=h
 exact ⟨gv,tv,(hb b h1.lt).trans h1,⟨h2.1,h2.2.imp id (fun ⟨g,cap,cur,a,b',c,d⟩=>⟨g,cap,cur,a,b',(hb g (heap_lt c)).trans c,d⟩)⟩,
  ⟨h3.1,h3.2.imp id (fun ⟨g,cap,cur,a,b',c,d⟩=>⟨g,cap,cur,a,b',(hb g (heap_lt c)).trans c,d⟩)⟩,h4⟩
theorem WkAt.below (h:WkAt w B b n s) (hb:Below w.heap.size w w'):WkAt w' B b n s:=h.keep hb.block
theorem WkAt.alloc (h:WkAt w B b n s) (o:Obj):WkAt (w.alloc o) B b n s:=h.keep (fun k hk=>Below.heap_alloc w o k hk)
theorem WkAt.op (h:WkAt w B b n s):∃ GA gc TA tc,Row w b 115 [.int .i64 n,.slice GA s.gates.length gc,.slice TA s.to.length tc]∧World.ownsRow w B 77 3 (.slice GA s.gates.length gc) (s.gates.length) (gatesCells s.gates)∧World.ownsRow w B 3 1 (.slice TA s.to.length tc) (s.to.length) (ints s.to)∧B≤b:=by
 obtain ⟨gv,tv,h1,h2,h3,h4⟩:=h
 obtain ⟨GA,gc,rfl,_⟩:=Rd.own h2
 obtain ⟨TA,tc,rfl,_⟩:=Rd.own h3
 exact ⟨GA,gc,TA,tc,h1,h2,h3,h4⟩
end
set_option maxRecDepth 100000 in
set_option maxHeartbeats 1000000 in
theorem operandsO_any (op:Int) (w:World):Calls Try.prog 84 #[.int .i64 op] w fun e w'=>e=.returned (.int .i64 (operandsO op))∧w=w':=by
 by_cases h0:op=0
 ·subst h0
  go_enter Try.func84,Try.ntmps84
  go_wp2
  go_ret
  exact ⟨rfl,rfl⟩
 by_cases h1:op=1
 ·subst h1
  go_enter Try.func84,Try.ntmps84
  go_wp2
  go_ret
  exact ⟨rfl,rfl⟩
 by_cases h2:op=2
 ·subst h2
  go_enter Try.func84,Try.ntmps84
  go_wp2
  go_ret
  exact ⟨rfl,rfl⟩
 have HV:Hid (∀ _:Unit,operandsO op=2):=fun _=>by unfold operandsO;rw [if_neg (by omega),if_neg h2]
 go_enter Try.func84,Try.ntmps84
 go_wp2
 go_ret
 exact ⟨ret_i64 (HV.out ()).symm,rfl⟩
theorem wk_added {W:World} {B b gn tn:Nat} {n z zv:Int} {s:Wk} {g:Gt} {GB TB:Option Addr} {gd td:Nat} (hg:∀ _:Unit,s.gates.length=gn) (ht:∀ _:Unit,s.to.length=tn) (hr:Row W b 115 [.int .i64 n,.slice GB (gn+1) gd,.slice TB (tn+1) td])
 (ho:World.ownsRow W B 77 3 (.slice GB (gn+1) gd) (gn+1) (gatesCells s.gates ++ [.int .i64 g.op,.int .i64 g.a,.int .i64 g.b])) (h1:World.ownsRow W B 3 1 (.slice TB (tn+1) td) (tn+1) (ints s.to ++ [.int .i64 zv])) (hb:B≤b) (hz:zv=if z < 0 then n+(s.gates.length:Int) else z):WkAt W B b n (addW n s (g,z)):=by
 refine ⟨_,_,hr,?_,?_,hb⟩
 ·show World.ownsRow W B _ 3 _ (s.gates ++ [g]).length (gatesCells (s.gates ++ [g]))
  rw [List.length_append,List.length_singleton,hg ()]
  have e:gatesCells (s.gates ++ [g])=gatesCells s.gates ++ [.int .i64 g.op,.int .i64 g.a,.int .i64 g.b]:=by simp [gatesCells,gtCells]
  rw [e];exact ho
 ·show World.ownsRow W B _ 1 _ (s.to ++ [if z < 0 then n+(s.gates.length:Int) else z]).length (ints (s.to ++ [if z < 0 then n+(s.gates.length:Int) else z]))
  rw [List.length_append,List.length_singleton,ht (),← hz]
  have e:ints (s.to ++ [zv])=ints s.to ++ [.int .i64 zv]:=by simp [ints]
  rw [e];exact h1
set_option maxRecDepth 100000 in
set_option maxHeartbeats 2000000 in
theorem add_any (B b:Nat) (n:Int) (s:Wk) (g:Gt) (z:Int) (w:World) (h:WkAt w B b n s) (hB:B≤w.heap.size) (hn:0≤n∧n≤1000) (hg:s.gates.length≤20000) (ht:s.to.length≤30000):
 Calls Try.prog 86 #[.pointer (some ⟨b,0,none⟩),.agg #[.int .i64 g.op,.int .i64 g.a,.int .i64 g.b],.int .i64 z] w fun e w'=>e=.returned (.tuple #[])∧WkAt w' B b n (addW n s (g,z))∧WFr B w w':=by
 obtain ⟨GA,gc,TA,tc,hr,ho,ht1,hBb⟩:=h.op
 have RL:=hiD hr
 have OGw:=hiD ho
 have OTw:=hiD ht1
 clear hr ho ht1 h
 have hbl:=RL.out.lt
 generalize hgl:s.gates.length=gn at hg RL OGw
 generalize htl:s.to.length=tn at ht RL OTw
 have HGL:=hiU hgl
 have HTL:=hiU htl
 clear hgl htl
 by_cases hz:z < 0
 ·have HZ:Hid (∀ _:Unit,(n:Int)+(gn:Int)=if z < 0 then n+(s.gates.length:Int) else z):=fun _=>by rw [if_pos hz,HGL.out ()]
  obtain ⟨k0,k1,k2,kl⟩:=RL.out.cells3
  have hw1:IntKind.i64.wrap (n+(gn:Int))=n+(gn:Int):=IntWalk.i64_in _ (by omega)
  go_enter Try.func86,Try.ntmps86
  go_wp2_with fail
  go_quiet (fail)
  clear k0 k1 k2 kl hw1
  go_wp2_with fail
  have Rx:Hid (Row (World.drewN (World.alloc w (.cells #[.int .i64 g.op,.int .i64 g.a,.int .i64 g.b] 77)) nq) b 115 [.int .i64 n,.slice GA gn gc,.slice TA tn tc]):=(RL.out.alloc _).drewN _
  have Bx:Hid (Row (World.drewN (World.alloc w (.cells #[.int .i64 g.op,.int .i64 g.a,.int .i64 g.b] 77)) nq) w.heap.size 77 [.int .i64 g.op,.int .i64 g.a,.int .i64 g.b]):=(Row.new w 77 [.int .i64 g.op,.int .i64 g.a,.int .i64 g.b]).drewN _
  have Ox:Hid (World.ownsRow (World.drewN (World.alloc w (.cells #[.int .i64 g.op,.int .i64 g.a,.int .i64 g.b] 77)) nq) B 77 3 (.slice GA gn gc) (gn) (gatesCells s.gates)):=OGw.out.alloc _
  have Tx:Hid (World.ownsRow (World.drewN (World.alloc w (.cells #[.int .i64 g.op,.int .i64 g.a,.int .i64 g.b] 77)) nq) B 3 1 (.slice TA tn tc) (tn) (ints s.to)):=OTw.out.alloc _
  have Fx:Hid (WFr B w (World.drewN (World.alloc w (.cells #[.int .i64 g.op,.int .i64 g.a,.int .i64 g.b] 77)) nq)):=((WFr.refl B w).alloc hB _).drewN _
  have hsx0:Hid (B≤((World.drewN (World.alloc w (.cells #[.int .i64 g.op,.int .i64 g.a,.int .i64 g.b] 77)) nq)).heap.size):=(by show B≤(World.alloc w _).heap.size;rw [World.size_alloc];omega)
  clear hbl
  revert Rx Bx Ox Tx Fx hsx0
  generalize (World.drewN (World.alloc w (.cells #[.int .i64 g.op,.int .i64 g.a,.int .i64 g.b] 77)) nq)=wx
  intro Rx Bx Ox Tx Fx hsx0
  have hsx:B≤wx.heap.size:=hsx0.out
  refine wp_region_L (fun w'=>Row w' b 115 [.int .i64 n,.slice GA gn gc,.slice TA tn tc]∧Row w' w.heap.size 77 [.int .i64 g.op,.int .i64 g.a,.int .i64 g.b]) [7,8,9,10] (by kernel_rfl) (by exact ⟨Rx.out.drew,Bx.out.drew⟩) (fun hHeld=>?_)
  have R3:Hid (Row wx.drew b 115 [.int .i64 n,.slice GA gn gc,.slice TA tn tc]):=Rx.out.drew
  have B3:Hid (Row wx.drew w.heap.size 77 [.int .i64 g.op,.int .i64 g.a,.int .i64 g.b]):=Bx.out.drew
  have O3:Hid (World.ownsRow wx.drew B 77 3 (.slice GA gn gc) (gn) (gatesCells s.gates)):=Ox.out
  have T3:Hid (World.ownsRow wx.drew B 3 1 (.slice TA tn tc) (tn) (ints s.to)):=Tx.out
  have F3:Hid (WFr B w wx.drew):=⟨Fx.out.below.drew,Fx.out.keep⟩
  have hs3:B≤wx.drew.heap.size:=hsx
  clear Rx Bx Ox Tx Fx hsx
  revert hHeld R3 B3 O3 T3 F3 hs3
  generalize wx.drew=wQ
  intro hHeld R3 B3 O3 T3 F3 hs3
  refine lPureW 0 ?va1 rfl (by rfl) ?ya1 ?ra1
  case ya1=>intro w' hSw;clear hSw;go_simp;try (with_reducible rfl)
  go_simp
  refine lPureW 1 ?va2 rfl (by rfl) ?ya2 ?ra2
  case ya2=>intro w' hSw;clear hSw;go_simp;try (with_reducible rfl)
  go_simp
  refine lPureW 2 ?va3 rfl (by rfl) ?ya3 ?ra3
  case ya3=>intro w' hSw;clear hSw;go_simp;try (with_reducible rfl)
  go_simp
  refine lPureW 3 ?va4 rfl (by rfl) ?ya4 ?ra4
  case ya4=>intro w' hSw;clear hSw;go_simp;try (with_reducible rfl)
  go_simp
  refine lTakeW 4 ?va5 [[7],[8],[9],[10]] rfl (by rfl) ?ya5 hHeld ?ra5
  case ya5=>
   intro w' hSw
   have hSh:Hid (Row w' b 115 [.int .i64 n,.slice GA gn gc,.slice TA tn tc]):=hSw.1
   have hSp:Hid (Row w' w.heap.size 77 [.int .i64 g.op,.int .i64 g.a,.int .i64 g.b]):=hSw.2
   clear hSw
   obtain ⟨z0,z1,z2,zl⟩:=hSh.out.cells3
   obtain ⟨y0,y1,y2,yl⟩:=hSp.out.cells3
   go_simp
   try (with_reducible rfl)
  go_simp
  refine lTakeW 5 ?va6 [[7,6],[8],[9],[10]] rfl (by rfl) ?ya6 hHeld ?ra6
  case ya6=>
   intro w' hSw
   have hSh:Hid (Row w' b 115 [.int .i64 n,.slice GA gn gc,.slice TA tn tc]):=hSw.1
   have hSp:Hid (Row w' w.heap.size 77 [.int .i64 g.op,.int .i64 g.a,.int .i64 g.b]):=hSw.2
   clear hSw
   obtain ⟨z0,z1,z2,zl⟩:=hSh.out.cells3
   obtain ⟨y0,y1,y2,yl⟩:=hSp.out.cells3
   go_simp
   try (with_reducible rfl)
  go_simp
  refine restL_one (i:=6) (by kernel_rfl) rfl (fun K hK=>?_)
  go_simp
  refine hK.out _ _ (fun _=>?keep) (fun hHeld=>?_)
  case keep=>exact ⟨R3.out.alloc _,B3.out.alloc _⟩
  have hHeld:=hHeld rfl
  clear hK K
  try go_simp
  refine restL_one (i:=7) (by kernel_rfl) rfl (fun K hK=>?_)
  refine step_app rfl (.tmp 22) (.tmp 24) 34 rfl B 77 (.agg #[.int .i64 0,.int .i64 0,.int .i64 0]) 3 24 Try.underlying34 gate_infoZ rfl (by decide) (by decide) (.slice GA gn gc) gn (gatesCells s.gates) rfl ?own (wQ.heap.size+1) (some ⟨wQ.heap.size,0,none⟩) 1 1 [.int .i64 g.op,.int .i64 g.a,.int .i64 g.b] rfl ?rd ?one ?hb ?hbase ?_
  case own=>exact O3.out.alloc _
  case rd=>exact Rd.lit wQ #[.int .i64 g.op,.int .i64 g.a,.int .i64 g.b] 77 (sz:=3) (m:=1) rfl
  case one=>first | exact gate_oneZ _ _ _ | exact ⟨rfl,rfl,rfl⟩
  case hb=>omega
  case hbase=>first | (simp;omega) | omega
  intro v' w5 hown' hgrow' hat'
  obtain ⟨GB,gd,rfl,_⟩:=Rd.own hown'
  have R5:Hid (Row w5 b 115 [.int .i64 n,.slice GA gn gc,.slice TA tn tc]):=(R3.out.alloc _).grown hgrow' (fun e=>own_ne_row O3.out R3.out (by decide) e.symm)
  have O5:Hid (World.ownsRow w5 B 77 3 (.slice GB (gn+1) gd) (gn+1) (gatesCells s.gates ++ [.int .i64 g.op,.int .i64 g.a,.int .i64 g.b])):=hown'
  have T5:Hid (World.ownsRow w5 B 3 1 (.slice TA tn tc) (tn) (ints s.to)):=own_grown (T3.out.alloc _) hgrow' (fun k hk e=>(own_ne_own T3.out O3.out (by decide)).elim (fun h=>by rw [h] at hk;cases hk) (fun h=>h (hk.trans e.symm)))
  have F5:Hid (WFr B w w5):=WFr.grown (F3.out.alloc hs3 _) (O3.out.alloc _) (.inl rfl) (Nat.le_refl _) (by simp;omega) hgrow'
  have hs5:B≤w5.heap.size:=Nat.le_trans (by simp;omega) hgrow'.size
  have q1:=R5.out.cell 1
  have qf:=R5.out.frozen 1
  have ql:=R5.out.lt
  simp only [List.getElem?_cons_zero,List.getElem?_cons_succ] at q1
  clear hown' hgrow' hat' R3 B3 O3 T3 F3 hs3
  refine hK.out _ _ (fun h=>absurd h (by decide)) (fun _=>?_)
  clear hK K
  try go_simp
  refine lPureW 8 ?va7 rfl (by rfl) ?ya7 ?ra7
  case ya7=>intro w' hSw;clear hSw;go_simp;try (with_reducible rfl)
  go_simp
  refine lPureW 9 ?va8 rfl (by rfl) ?ya8 ?ra8
  case ya8=>intro w' hSw;clear hSw;go_simp;try (with_reducible rfl)
  go_simp
  refine restL_one (i:=10) (by kernel_rfl) rfl (fun K hK=>?_)
  go_simp
  refine hK.out _ _ (fun h=>absurd h (by decide)) (fun _=>?_)
  clear hK K
  try go_simp
  refine restL_done (by kernel_rfl) ?_ _
  have R6:Hid (Row (World.setCell w5 ⟨b,1,none⟩ (.slice GB (gn+1) gd)) b 115 [.int .i64 n,.slice GB (gn+1) gd,.slice TA tn tc]):=R5.out.set 1 (.slice GB (gn+1) gd)
  have O6:Hid (World.ownsRow (World.setCell w5 ⟨b,1,none⟩ (.slice GB (gn+1) gd)) B 77 3 (.slice GB (gn+1) gd) (gn+1) (gatesCells s.gates ++ [.int .i64 g.op,.int .i64 g.a,.int .i64 g.b])):=own_set (p:=⟨b,1,none⟩) O5.out R5.out (by decide) _
  have T6:Hid (World.ownsRow (World.setCell w5 ⟨b,1,none⟩ (.slice GB (gn+1) gd)) B 3 1 (.slice TA tn tc) (tn) (ints s.to)):=own_set (p:=⟨b,1,none⟩) T5.out R5.out (by decide) _
  have F6:Hid (WFr B w (World.setCell w5 ⟨b,1,none⟩ (.slice GB (gn+1) gd))):=WFr.set (p:=⟨b,1,none⟩) F5.out R5.out hBb _
  have hs6:Hid (B≤((World.setCell w5 ⟨b,1,none⟩ (.slice GB (gn+1) gd))).heap.size):=(by show _≤_;rw [World.size_setCell];exact hs5)
  clear R5 O5 T5 F5 q1 qf ql hs5
  revert R6 O6 T6 F6 hs6
  generalize (World.setCell w5 ⟨b,1,none⟩ (.slice GB (gn+1) gd))=w6
  intro R6 O6 T6 F6 hs6
  have hs6:B≤w6.heap.size:=hs6.out
  obtain ⟨z0,z1,z2,zl⟩:=R6.out.cells3
  go_wp2_with (at_builtin;refine wpList_app rfl (.tmp 32) (.tmp 34) 35 rfl B 3 (.int .i64 0) 1 8 Try.underlying35 int_infoZ rfl (by decide) (by decide) (.slice TA tn tc) tn (ints s.to) rfl ?own (w6.heap.size+1) (some ⟨w6.heap.size,0,none⟩) 1 1 [.int .i64 (n+(gn:Int))] rfl ?rd ?one ?hb ?hbase ?_)
  case own=>exact T6.out.alloc _
  case rd=>exact Rd.lit w6 #[.int .i64 (n+(gn:Int))] 3 (sz:=1) (m:=1) rfl
  case one=>first | (intro u hu;simp at hu;subst hu;rfl) | rfl
  case hb=>omega
  case hbase=>first | (simp;omega) | omega
  intro v' w5 hown' hgrow' hat'
  obtain ⟨TB,td,rfl,_⟩:=Rd.own hown'
  have R5:Hid (Row w5 b 115 [.int .i64 n,.slice GB (gn+1) gd,.slice TA tn tc]):=(R6.out.alloc _).grown hgrow' (fun e=>own_ne_row T6.out R6.out (by decide) e.symm)
  have T5:Hid (World.ownsRow w5 B 3 1 (.slice TB (tn+1) td) (tn+1) (ints s.to ++ [.int .i64 (n+(gn:Int))])):=hown'
  have O5:Hid (World.ownsRow w5 B 77 3 (.slice GB (gn+1) gd) (gn+1) (gatesCells s.gates ++ [.int .i64 g.op,.int .i64 g.a,.int .i64 g.b])):=own_grown (O6.out.alloc _) hgrow' (fun k hk e=>(own_ne_own O6.out T6.out (by decide)).elim (fun h=>by rw [h] at hk;cases hk) (fun h=>h (hk.trans e.symm)))
  have F5:Hid (WFr B w w5):=WFr.grown (F6.out.alloc hs6 _) (T6.out.alloc _) (.inr rfl) (Nat.le_refl _) (by simp;omega) hgrow'
  clear hown' hgrow' hat' R6 O6 T6 F6 hs6 z0 z1 z2 zl
  have q1:=R5.out.cell 2
  have qf:=R5.out.frozen 2
  have ql:=R5.out.lt
  simp only [List.getElem?_cons_zero,List.getElem?_cons_succ] at q1
  go_wp2_with fail
  have R6:Hid (Row (World.setCell w5 ⟨b,2,none⟩ (.slice TB (tn+1) td)) b 115 [.int .i64 n,.slice GB (gn+1) gd,.slice TB (tn+1) td]):=R5.out.set 2 (.slice TB (tn+1) td)
  have O6:Hid (World.ownsRow (World.setCell w5 ⟨b,2,none⟩ (.slice TB (tn+1) td)) B 77 3 (.slice GB (gn+1) gd) (gn+1) (gatesCells s.gates ++ [.int .i64 g.op,.int .i64 g.a,.int .i64 g.b])):=own_set (p:=⟨b,2,none⟩) O5.out R5.out (by decide) _
  have T6:Hid (World.ownsRow (World.setCell w5 ⟨b,2,none⟩ (.slice TB (tn+1) td)) B 3 1 (.slice TB (tn+1) td) (tn+1) (ints s.to ++ [.int .i64 (n+(gn:Int))])):=own_set (p:=⟨b,2,none⟩) T5.out R5.out (by decide) _
  have F6:Hid (WFr B w (World.setCell w5 ⟨b,2,none⟩ (.slice TB (tn+1) td))):=WFr.set (p:=⟨b,2,none⟩) F5.out R5.out hBb _
  clear R5 O5 T5 F5 q1 qf ql
  revert R6 O6 T6 F6
  generalize (World.setCell w5 ⟨b,2,none⟩ (.slice TB (tn+1) td))=w7
  intro R6 O6 T6 F6
  go_end0
  exact ⟨rfl,wk_added HGL.out HTL.out R6.out O6.out T6.out hBb (HZ.out ()),F6.out⟩
 ·have HZ:Hid (∀ _:Unit,z=if z < 0 then n+(s.gates.length:Int) else z):=fun _=>by rw [if_neg hz]
  go_enter Try.func86,Try.ntmps86
  go_wp2_with fail
  have Rx:Hid (Row (World.alloc w (.cells #[.int .i64 g.op,.int .i64 g.a,.int .i64 g.b] 77)) b 115 [.int .i64 n,.slice GA gn gc,.slice TA tn tc]):=RL.out.alloc _
  have Bx:Hid (Row (World.alloc w (.cells #[.int .i64 g.op,.int .i64 g.a,.int .i64 g.b] 77)) w.heap.size 77 [.int .i64 g.op,.int .i64 g.a,.int .i64 g.b]):=Row.new w 77 [.int .i64 g.op,.int .i64 g.a,.int .i64 g.b]
  have Ox:Hid (World.ownsRow (World.alloc w (.cells #[.int .i64 g.op,.int .i64 g.a,.int .i64 g.b] 77)) B 77 3 (.slice GA gn gc) (gn) (gatesCells s.gates)):=OGw.out.alloc _
  have Tx:Hid (World.ownsRow (World.alloc w (.cells #[.int .i64 g.op,.int .i64 g.a,.int .i64 g.b] 77)) B 3 1 (.slice TA tn tc) (tn) (ints s.to)):=OTw.out.alloc _
  have Fx:Hid (WFr B w (World.alloc w (.cells #[.int .i64 g.op,.int .i64 g.a,.int .i64 g.b] 77))):=(WFr.refl B w).alloc hB _
  have hsx0:Hid (B≤((World.alloc w (.cells #[.int .i64 g.op,.int .i64 g.a,.int .i64 g.b] 77))).heap.size):=(by show B≤(World.alloc w _).heap.size;rw [World.size_alloc];omega)
  clear hbl
  revert Rx Bx Ox Tx Fx hsx0
  generalize (World.alloc w (.cells #[.int .i64 g.op,.int .i64 g.a,.int .i64 g.b] 77))=wx
  intro Rx Bx Ox Tx Fx hsx0
  have hsx:B≤wx.heap.size:=hsx0.out
  refine wp_region_L (fun w'=>Row w' b 115 [.int .i64 n,.slice GA gn gc,.slice TA tn tc]∧Row w' w.heap.size 77 [.int .i64 g.op,.int .i64 g.a,.int .i64 g.b]) [7,8,9,10] (by kernel_rfl) (by exact ⟨Rx.out.drew,Bx.out.drew⟩) (fun hHeld=>?_)
  have R3:Hid (Row wx.drew b 115 [.int .i64 n,.slice GA gn gc,.slice TA tn tc]):=Rx.out.drew
  have B3:Hid (Row wx.drew w.heap.size 77 [.int .i64 g.op,.int .i64 g.a,.int .i64 g.b]):=Bx.out.drew
  have O3:Hid (World.ownsRow wx.drew B 77 3 (.slice GA gn gc) (gn) (gatesCells s.gates)):=Ox.out
  have T3:Hid (World.ownsRow wx.drew B 3 1 (.slice TA tn tc) (tn) (ints s.to)):=Tx.out
  have F3:Hid (WFr B w wx.drew):=⟨Fx.out.below.drew,Fx.out.keep⟩
  have hs3:B≤wx.drew.heap.size:=hsx
  clear Rx Bx Ox Tx Fx hsx
  revert hHeld R3 B3 O3 T3 F3 hs3
  generalize wx.drew=wQ
  intro hHeld R3 B3 O3 T3 F3 hs3
  refine lPureW 0 ?vd1 rfl (by rfl) ?yd1 ?rd1
  case yd1=>intro w' hSw;clear hSw;go_simp;try (with_reducible rfl)
  go_simp
  refine lPureW 1 ?vd2 rfl (by rfl) ?yd2 ?rd2
  case yd2=>intro w' hSw;clear hSw;go_simp;try (with_reducible rfl)
  go_simp
  refine lPureW 2 ?vd3 rfl (by rfl) ?yd3 ?rd3
  case yd3=>intro w' hSw;clear hSw;go_simp;try (with_reducible rfl)
  go_simp
  refine lPureW 3 ?vd4 rfl (by rfl) ?yd4 ?rd4
  case yd4=>intro w' hSw;clear hSw;go_simp;try (with_reducible rfl)
  go_simp
  refine lTakeW 4 ?vd5 [[7],[8],[9],[10]] rfl (by rfl) ?yd5 hHeld ?rd5
  case yd5=>
   intro w' hSw
   have hSh:Hid (Row w' b 115 [.int .i64 n,.slice GA gn gc,.slice TA tn tc]):=hSw.1
   have hSp:Hid (Row w' w.heap.size 77 [.int .i64 g.op,.int .i64 g.a,.int .i64 g.b]):=hSw.2
   clear hSw
   obtain ⟨z0,z1,z2,zl⟩:=hSh.out.cells3
   obtain ⟨y0,y1,y2,yl⟩:=hSp.out.cells3
   go_simp
   try (with_reducible rfl)
  go_simp
  refine lTakeW 5 ?vd6 [[7,6],[8],[9],[10]] rfl (by rfl) ?yd6 hHeld ?rd6
  case yd6=>
   intro w' hSw
   have hSh:Hid (Row w' b 115 [.int .i64 n,.slice GA gn gc,.slice TA tn tc]):=hSw.1
   have hSp:Hid (Row w' w.heap.size 77 [.int .i64 g.op,.int .i64 g.a,.int .i64 g.b]):=hSw.2
   clear hSw
   obtain ⟨z0,z1,z2,zl⟩:=hSh.out.cells3
   obtain ⟨y0,y1,y2,yl⟩:=hSp.out.cells3
   go_simp
   try (with_reducible rfl)
  go_simp
  refine restL_one (i:=6) (by kernel_rfl) rfl (fun K hK=>?_)
  go_simp
  refine hK.out _ _ (fun _=>?keep) (fun hHeld=>?_)
  case keep=>exact ⟨R3.out.alloc _,B3.out.alloc _⟩
  have hHeld:=hHeld rfl
  clear hK K
  try go_simp
  refine restL_one (i:=7) (by kernel_rfl) rfl (fun K hK=>?_)
  refine step_app rfl (.tmp 22) (.tmp 24) 34 rfl B 77 (.agg #[.int .i64 0,.int .i64 0,.int .i64 0]) 3 24 Try.underlying34 gate_infoZ rfl (by decide) (by decide) (.slice GA gn gc) gn (gatesCells s.gates) rfl ?own (wQ.heap.size+1) (some ⟨wQ.heap.size,0,none⟩) 1 1 [.int .i64 g.op,.int .i64 g.a,.int .i64 g.b] rfl ?rd ?one ?hb ?hbase ?_
  case own=>exact O3.out.alloc _
  case rd=>exact Rd.lit wQ #[.int .i64 g.op,.int .i64 g.a,.int .i64 g.b] 77 (sz:=3) (m:=1) rfl
  case one=>first | exact gate_oneZ _ _ _ | exact ⟨rfl,rfl,rfl⟩
  case hb=>omega
  case hbase=>first | (simp;omega) | omega
  intro v' w5 hown' hgrow' hat'
  obtain ⟨GB,gd,rfl,_⟩:=Rd.own hown'
  have R5:Hid (Row w5 b 115 [.int .i64 n,.slice GA gn gc,.slice TA tn tc]):=(R3.out.alloc _).grown hgrow' (fun e=>own_ne_row O3.out R3.out (by decide) e.symm)
  have O5:Hid (World.ownsRow w5 B 77 3 (.slice GB (gn+1) gd) (gn+1) (gatesCells s.gates ++ [.int .i64 g.op,.int .i64 g.a,.int .i64 g.b])):=hown'
  have T5:Hid (World.ownsRow w5 B 3 1 (.slice TA tn tc) (tn) (ints s.to)):=own_grown (T3.out.alloc _) hgrow' (fun k hk e=>(own_ne_own T3.out O3.out (by decide)).elim (fun h=>by rw [h] at hk;cases hk) (fun h=>h (hk.trans e.symm)))
  have F5:Hid (WFr B w w5):=WFr.grown (F3.out.alloc hs3 _) (O3.out.alloc _) (.inl rfl) (Nat.le_refl _) (by simp;omega) hgrow'
  have hs5:B≤w5.heap.size:=Nat.le_trans (by simp;omega) hgrow'.size
  have q1:=R5.out.cell 1
  have qf:=R5.out.frozen 1
  have ql:=R5.out.lt
  simp only [List.getElem?_cons_zero,List.getElem?_cons_succ] at q1
  clear hown' hgrow' hat' R3 B3 O3 T3 F3 hs3
  refine hK.out _ _ (fun h=>absurd h (by decide)) (fun _=>?_)
  clear hK K
  try go_simp
  refine lPureW 8 ?vd7 rfl (by rfl) ?yd7 ?rd7
  case yd7=>intro w' hSw;clear hSw;go_simp;try (with_reducible rfl)
  go_simp
  refine lPureW 9 ?vd8 rfl (by rfl) ?yd8 ?rd8
  case yd8=>intro w' hSw;clear hSw;go_simp;try (with_reducible rfl)
  go_simp
  refine restL_one (i:=10) (by kernel_rfl) rfl (fun K hK=>?_)
  go_simp
  refine hK.out _ _ (fun h=>absurd h (by decide)) (fun _=>?_)
  clear hK K
  try go_simp
  refine restL_done (by kernel_rfl) ?_ _
  have R6:Hid (Row (World.setCell w5 ⟨b,1,none⟩ (.slice GB (gn+1) gd)) b 115 [.int .i64 n,.slice GB (gn+1) gd,.slice TA tn tc]):=R5.out.set 1 (.slice GB (gn+1) gd)
  have O6:Hid (World.ownsRow (World.setCell w5 ⟨b,1,none⟩ (.slice GB (gn+1) gd)) B 77 3 (.slice GB (gn+1) gd) (gn+1) (gatesCells s.gates ++ [.int .i64 g.op,.int .i64 g.a,.int .i64 g.b])):=own_set (p:=⟨b,1,none⟩) O5.out R5.out (by decide) _
  have T6:Hid (World.ownsRow (World.setCell w5 ⟨b,1,none⟩ (.slice GB (gn+1) gd)) B 3 1 (.slice TA tn tc) (tn) (ints s.to)):=own_set (p:=⟨b,1,none⟩) T5.out R5.out (by decide) _
  have F6:Hid (WFr B w (World.setCell w5 ⟨b,1,none⟩ (.slice GB (gn+1) gd))):=WFr.set (p:=⟨b,1,none⟩) F5.out R5.out hBb _
  have hs6:Hid (B≤((World.setCell w5 ⟨b,1,none⟩ (.slice GB (gn+1) gd))).heap.size):=(by show _≤_;rw [World.size_setCell];exact hs5)
  clear R5 O5 T5 F5 q1 qf ql hs5
  revert R6 O6 T6 F6 hs6
  generalize (World.setCell w5 ⟨b,1,none⟩ (.slice GB (gn+1) gd))=w6
  intro R6 O6 T6 F6 hs6
  have hs6:B≤w6.heap.size:=hs6.out
  obtain ⟨z0,z1,z2,zl⟩:=R6.out.cells3
  go_wp2_with (at_builtin;refine wpList_app rfl (.tmp 32) (.tmp 34) 35 rfl B 3 (.int .i64 0) 1 8 Try.underlying35 int_infoZ rfl (by decide) (by decide) (.slice TA tn tc) tn (ints s.to) rfl ?own (w6.heap.size+1) (some ⟨w6.heap.size,0,none⟩) 1 1 [.int .i64 (z)] rfl ?rd ?one ?hb ?hbase ?_)
  case own=>exact T6.out.alloc _
  case rd=>exact Rd.lit w6 #[.int .i64 (z)] 3 (sz:=1) (m:=1) rfl
  case one=>first | (intro u hu;simp at hu;subst hu;rfl) | rfl
  case hb=>omega
  case hbase=>first | (simp;omega) | omega
  intro v' w5 hown' hgrow' hat'
  obtain ⟨TB,td,rfl,_⟩:=Rd.own hown'
  have R5:Hid (Row w5 b 115 [.int .i64 n,.slice GB (gn+1) gd,.slice TA tn tc]):=(R6.out.alloc _).grown hgrow' (fun e=>own_ne_row T6.out R6.out (by decide) e.symm)
  have T5:Hid (World.ownsRow w5 B 3 1 (.slice TB (tn+1) td) (tn+1) (ints s.to ++ [.int .i64 (z)])):=hown'
  have O5:Hid (World.ownsRow w5 B 77 3 (.slice GB (gn+1) gd) (gn+1) (gatesCells s.gates ++ [.int .i64 g.op,.int .i64 g.a,.int .i64 g.b])):=own_grown (O6.out.alloc _) hgrow' (fun k hk e=>(own_ne_own O6.out T6.out (by decide)).elim (fun h=>by rw [h] at hk;cases hk) (fun h=>h (hk.trans e.symm)))
  have F5:Hid (WFr B w w5):=WFr.grown (F6.out.alloc hs6 _) (T6.out.alloc _) (.inr rfl) (Nat.le_refl _) (by simp;omega) hgrow'
  clear hown' hgrow' hat' R6 O6 T6 F6 hs6 z0 z1 z2 zl
  have q1:=R5.out.cell 2
  have qf:=R5.out.frozen 2
  have ql:=R5.out.lt
  simp only [List.getElem?_cons_zero,List.getElem?_cons_succ] at q1
  go_wp2_with fail
  have R6:Hid (Row (World.setCell w5 ⟨b,2,none⟩ (.slice TB (tn+1) td)) b 115 [.int .i64 n,.slice GB (gn+1) gd,.slice TB (tn+1) td]):=R5.out.set 2 (.slice TB (tn+1) td)
  have O6:Hid (World.ownsRow (World.setCell w5 ⟨b,2,none⟩ (.slice TB (tn+1) td)) B 77 3 (.slice GB (gn+1) gd) (gn+1) (gatesCells s.gates ++ [.int .i64 g.op,.int .i64 g.a,.int .i64 g.b])):=own_set (p:=⟨b,2,none⟩) O5.out R5.out (by decide) _
  have T6:Hid (World.ownsRow (World.setCell w5 ⟨b,2,none⟩ (.slice TB (tn+1) td)) B 3 1 (.slice TB (tn+1) td) (tn+1) (ints s.to ++ [.int .i64 (z)])):=own_set (p:=⟨b,2,none⟩) T5.out R5.out (by decide) _
  have F6:Hid (WFr B w (World.setCell w5 ⟨b,2,none⟩ (.slice TB (tn+1) td))):=WFr.set (p:=⟨b,2,none⟩) F5.out R5.out hBb _
  clear R5 O5 T5 F5 q1 qf ql
  revert R6 O6 T6 F6
  generalize (World.setCell w5 ⟨b,2,none⟩ (.slice TB (tn+1) td))=w7
  intro R6 O6 T6 F6
  go_end0
  exact ⟨rfl,wk_added HGL.out HTL.out R6.out O6.out T6.out hBb (HZ.out ()),F6.out⟩
end Go.Proofs.Ytiemhbogbaamlaa
