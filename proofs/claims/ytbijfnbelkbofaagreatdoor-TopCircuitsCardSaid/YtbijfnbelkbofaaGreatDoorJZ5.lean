/-
  Lemmas for the law TopCircuits.
-/
import Derived.Test.YtbijfnbelkbofaaGreatDoorJZ1
import Derived.Test.YtbijfnbelkbofaaGreatDoorJZ3
import Derived.BigQuiet
set_option linter.unusedSimpArgs false
set_option linter.unusedVariables false
namespace Go.Proofs.YtbijfnbelkbofaaGreatDoor
open Go.RowKit
set_option maxRecDepth 100000 in
set_option maxHeartbeats 4000000 in
theorem moved_any (B b:Nat) (n:Int) (s:Wk) (g:Gt) (w:World) (h:WkAt w B b n s) (ht:s.tq.length≤30000)
 (ha:1≤operandsO g.op→0≤g.a∧g.a < s.tq.length) (hb:operandsO g.op=2→0≤g.b∧g.b < s.tq.length):
 Calls Tryz.prog 83 #[.pointer (some ⟨b,0,none⟩),.agg #[.int .i64 g.op,.int .i64 g.a,.int .i64 g.b]] w fun e w'=>e=.returned (.agg #[.int .i64 (moveG s.tq g).op,.int .i64 (moveG s.tq g).a,.int .i64 (moveG s.tq g).b])∧Below w.heap.size w w':=by
 have hk3:operandsO g.op=0∨operandsO g.op=1∨operandsO g.op=2:=by have:=operandsO_bd g.op;omega
 rcases hk3 with hk | hk | hk
 ·have HV:Hid (∀ _:Unit,moveG s.tq g=g):=fun _=>by unfold moveG;rw [if_neg (by omega),if_neg (by omega)]
  have HOP:=hiU hk;clear ha hb hk h;go_enter Tryz.func83,Tryz.ntmps83;go_wp2_with fail;obtain ⟨wa,hW9,RB,RZ,hgr9⟩:=laid2 w [.int .i64 g.op,.int .i64 g.a,.int .i64 g.b] 135 [.int .i64 0,.int .i64 0,.int .i64 0] 135;rewrite [hW9];clear hW9;have B_w:=hiD hgr9;clear hgr9;have BW:=B_w;have HC:=operandsO_any g.op wa;rw [HOP.out ()] at HC;refine HC.mono ?_;clear HC;rintro e w1 ⟨rfl,rfl⟩;obtain ⟨q0,q1,q2,ql⟩:=RB.out.cells3;obtain ⟨z0,z1,z2,zl⟩:=RZ.out.cells3;obtain ⟨zf0,zf1,zf2⟩:=RZ.out.froz3;go_wp2;have Z9:=RZ.out.set3 (.int .i64 g.op) (.int .i64 g.a) (.int .i64 g.b);have B9:=bSet3 BW.out (w.heap.size+1) (by show _≤(w.heap.size+1);omega) (.int .i64 g.op) (.int .i64 g.a) (.int .i64 g.b);obtain ⟨d0,d1,d2,-⟩:=Z9.cells3;clear Z9;refine bodyPost_ret (v:=.agg #[.int .i64 g.op,.int .i64 g.a,.int .i64 g.b]) (by simp [results,Tryz.results83,go_sem,d0,d1,d2]) rfl ?_;exact ⟨by rw [HV.out ()],B9⟩
 ·skip
  obtain ⟨GA,gc,TA,tc,hr,_,ht1,hBb⟩:=h.op;have hT:=Rd.of_own ht1;have hne:0 < s.tq.length:=by have:=ha (by omega);omega
  obtain ⟨ad,rfl,hab,hcs⟩:=hT.ex hne;have HCS:Hid (∀ (j:Nat),j < s.tq.length→∀ W9,Below w.heap.size w W9→W9.cell? (ad.add j)=some (.int .i64 (s.tq.getD j 0))):=fun j hj W9 h9=>(h9.cell (by rw [add_block];exact hab)).trans (hcs j _ (ints_get _ _ hj))
  have hbl:=hr.lt;generalize htn:s.tq.length=tn at hr ht ha hb hne;have RLw:=hiD hr;have HTN:=hiU htn;clear hr ht1 hT hcs hab htn h;obtain ⟨a0,a1⟩:=ha (by omega)
  obtain ⟨ja,hja⟩:∃ j:Nat,g.a=(j:Int):=⟨g.a.toNat,by omega⟩
  have hj:ja < tn:=by omega
  obtain ⟨va,hva⟩:∃ v,s.tq.getD ja 0=v:=⟨_,rfl⟩
  have HCELLa:Hid (∀ W9,Below w.heap.size w W9→W9.cell? (ad.add ja)=some (.int .i64 va)):=fun W9 h9=>by rw [← hva];exact HCS.out ja (by rw [HTN.out ()];exact hj) W9 h9
  have HV:Hid (∀ _:Unit,moveG s.tq g=⟨g.op,va,g.b⟩):=fun _=>by unfold moveG toAt;rw [if_pos (by omega),if_neg (by omega),hja,Int.toNat_natCast,hva]
  have HOP:=hiU hk;have hi1:(ja:Int) < (tn:Int):=by omega
  rw [hja];clear ha hb hk a0 a1 hja hva;go_enter Tryz.func83,Tryz.ntmps83;go_wp2_with fail;obtain ⟨wa,hW9,RB,RZ,hgr9⟩:=laid2 w [.int .i64 g.op,.int .i64 (ja:Int),.int .i64 g.b] 135 [.int .i64 0,.int .i64 0,.int .i64 0] 135;rewrite [hW9];clear hW9;have B_w:=hiD hgr9;clear hgr9;have BW:=B_w;have RL:=hiD (rowCells RLw.out B_w.out);have HC:=operandsO_any g.op wa;rw [HOP.out ()] at HC;obtain ⟨q0,q1,q2,ql⟩:=RB.out.cells3;go_wp2_with fail;refine HC.mono ?_;clear HC;rintro e w1 ⟨rfl,rfl⟩;go_wp2_with fail;clear q0 q1 q2 ql;refine wp_region_L (fun w'=>Row w' b 144 [.int .i64 n,.slice GA s.gates.length gc,.slice (some ad) tn tc]∧Row w' w.heap.size 135 [.int .i64 g.op,.int .i64 (ja:Int),.int .i64 g.b]∧w'.cell? (ad.add ja)=some (.int .i64 va)) [8,9] (by kernel_rfl) (by exact ⟨RL.out.drew,RB.out.drew,HCELLa.out _ BW.out.drew⟩) (fun hHeld=>?_);have RBd:Hid (Row (World.drew wa) w.heap.size 135 [.int .i64 g.op,.int .i64 (ja:Int),.int .i64 g.b]):=RB.out.drew;have RZd:Hid (Row (World.drew wa) (w.heap.size+1) 135 [.int .i64 0,.int .i64 0,.int .i64 0]):=RZ.out.drew;have RLd:Hid (Row (World.drew wa) b 144 [.int .i64 n,.slice GA s.gates.length gc,.slice (some ad) tn tc]):=RL.out.drew;have BWd:Hid (Below w.heap.size w (World.drew wa)):=BW.out.drew;clear RB RZ RL BW;revert hHeld RBd RZd RLd BWd;generalize World.drew wa=wQ;intro hHeld RB RZ RL BW;have q1:=RB.out.cell 1;have qf:=RB.out.frozen 1;have ql:=RB.out.lt;simp only [List.getElem?_cons_zero,List.getElem?_cons_succ] at q1;refine lP 0 ?_;go_simp;refine lP 1 ?_;go_simp;refine lP 2 ?_;go_simp;refine lP 4 ?_;go_simp;refine lTakeW 3 ?va5 [[8],[9]] rfl (by rfl) ?ya5 hHeld ?ra5
  case ya5=>
   intro w' hSw;have hSh:=hiD hSw.1;have hSp:=hiD hSw.2.1;have hSc:=hSw.2.2;clear hSw;obtain ⟨z0,z1,z2,zl⟩:=hSh.out.cells3;obtain ⟨y0,y1,y2,yl⟩:=hSp.out.cells3;go_simp
   try (with_reducible rfl)
  go_simp;refine lTakeW 5 ?va6 [[8],[9]] rfl (by rfl) ?ya6 hHeld ?ra6
  case ya6=>
   intro w' hSw;have hSh:=hiD hSw.1;have hSp:=hiD hSw.2.1;have hSc:=hSw.2.2;clear hSw;obtain ⟨z0,z1,z2,zl⟩:=hSh.out.cells3;obtain ⟨y0,y1,y2,yl⟩:=hSp.out.cells3;go_simp
   try (with_reducible rfl)
  go_simp;refine lTakeW 6 ?va7 [[8],[9]] rfl (by rfl) ?ya7 hHeld ?ra7
  case ya7=>
   intro w' hSw;have hSh:=hiD hSw.1;have hSp:=hiD hSw.2.1;have hSc:=hSw.2.2;clear hSw;obtain ⟨z0,z1,z2,zl⟩:=hSh.out.cells3;obtain ⟨y0,y1,y2,yl⟩:=hSp.out.cells3;go_simp
   try (with_reducible rfl)
  go_simp;refine lTakeW 7 ?va8 [[8],[9]] rfl (by rfl) ?ya8 hHeld ?ra8
  case ya8=>
   intro w' hSw;have hSh:=hiD hSw.1;have hSp:=hiD hSw.2.1;have hSc:=hSw.2.2;clear hSw;obtain ⟨z0,z1,z2,zl⟩:=hSh.out.cells3;obtain ⟨y0,y1,y2,yl⟩:=hSp.out.cells3;go_simp
   try (with_reducible rfl)
  go_simp;refine lP 8 ?_;go_simp;refine restL_one (i:=9) (by kernel_rfl) rfl (fun K hK=>?_);go_simp;refine hK.out _ _ (fun h=>absurd h (by decide)) (fun _=>?_);clear hK K
  try go_simp
  refine restL_done (by kernel_rfl) ?_ _;have RB9:Hid (Row (World.setCell wQ ⟨w.heap.size,1,none⟩ (.int .i64 va)) w.heap.size 135 [.int .i64 g.op,.int .i64 va,.int .i64 g.b]):=RB.out.set 1 _;have RZ9:Hid (Row (World.setCell wQ ⟨w.heap.size,1,none⟩ (.int .i64 va)) (w.heap.size+1) 135 [.int .i64 0,.int .i64 0,.int .i64 0]):=RZ.out.far (p:=⟨w.heap.size,1,none⟩) (by show (w.heap.size+1)≠w.heap.size;omega) _;have RL9:Hid (Row (World.setCell wQ ⟨w.heap.size,1,none⟩ (.int .i64 va)) b 144 [.int .i64 n,.slice GA s.gates.length gc,.slice (some ad) tn tc]):=RL.out.far (p:=⟨w.heap.size,1,none⟩) (by show b≠w.heap.size;omega) _;have BW9:Hid (Below w.heap.size w (World.setCell wQ ⟨w.heap.size,1,none⟩ (.int .i64 va))):=BW.out.setCell (p:=⟨w.heap.size,1,none⟩) (Nat.le_refl _) _;clear RB RZ RL BW q1 qf ql hHeld;revert RB9 RZ9 RL9 BW9;generalize (World.setCell wQ ⟨w.heap.size,1,none⟩ (.int .i64 va))=wb;intro RB RZ RL BW;obtain ⟨q0,q1,q2,ql⟩:=RB.out.cells3;obtain ⟨z0,z1,z2,zl⟩:=RZ.out.cells3;obtain ⟨zf0,zf1,zf2⟩:=RZ.out.froz3;go_wp2;have Z9:=RZ.out.set3 (.int .i64 g.op) (.int .i64 va) (.int .i64 g.b);have B9:=bSet3 BW.out (w.heap.size+1) (by show _≤(w.heap.size+1);omega) (.int .i64 g.op) (.int .i64 va) (.int .i64 g.b);obtain ⟨d0,d1,d2,-⟩:=Z9.cells3;clear Z9;refine bodyPost_ret (v:=.agg #[.int .i64 g.op,.int .i64 va,.int .i64 g.b]) (by simp [results,Tryz.results83,go_sem,d0,d1,d2]) rfl ?_;exact ⟨by rw [HV.out ()],B9⟩
 ·skip
  obtain ⟨GA,gc,TA,tc,hr,_,ht1,hBb⟩:=h.op;have hT:=Rd.of_own ht1;have hne:0 < s.tq.length:=by have:=ha (by omega);omega
  obtain ⟨ad,rfl,hab,hcs⟩:=hT.ex hne;have HCS:Hid (∀ (j:Nat),j < s.tq.length→∀ W9,Below w.heap.size w W9→W9.cell? (ad.add j)=some (.int .i64 (s.tq.getD j 0))):=fun j hj W9 h9=>(h9.cell (by rw [add_block];exact hab)).trans (hcs j _ (ints_get _ _ hj))
  have hbl:=hr.lt;generalize htn:s.tq.length=tn at hr ht ha hb hne;have RLw:=hiD hr;have HTN:=hiU htn;clear hr ht1 hT hcs hab htn h;obtain ⟨a0,a1⟩:=ha (by omega);obtain ⟨b0,b1⟩:=hb hk
  obtain ⟨ja,hja⟩:∃ j:Nat,g.a=(j:Int):=⟨g.a.toNat,by omega⟩
  obtain ⟨jb,hjb⟩:∃ j:Nat,g.b=(j:Int):=⟨g.b.toNat,by omega⟩
  have hj:ja < tn:=by omega
  have hj2:jb < tn:=by omega
  obtain ⟨va,hva⟩:∃ v,s.tq.getD ja 0=v:=⟨_,rfl⟩
  obtain ⟨vb,hvb⟩:∃ v,s.tq.getD jb 0=v:=⟨_,rfl⟩
  have HCELLa:Hid (∀ W9,Below w.heap.size w W9→W9.cell? (ad.add ja)=some (.int .i64 va)):=fun W9 h9=>by rw [← hva];exact HCS.out ja (by rw [HTN.out ()];exact hj) W9 h9
  have HCELLb:Hid (∀ W9,Below w.heap.size w W9→W9.cell? (ad.add jb)=some (.int .i64 vb)):=fun W9 h9=>by rw [← hvb];exact HCS.out jb (by rw [HTN.out ()];exact hj2) W9 h9
  have HV:Hid (∀ _:Unit,moveG s.tq g=⟨g.op,va,vb⟩):=fun _=>by unfold moveG toAt;rw [if_pos (by omega),if_pos hk,hja,hjb,Int.toNat_natCast,Int.toNat_natCast,hva,hvb]
  have HOP:=hiU hk;have hi1:(ja:Int) < (tn:Int):=by omega
  have hi2:(jb:Int) < (tn:Int):=by omega
  rw [hja,hjb];clear ha hb hk a0 a1 b0 b1 hja hva hjb hvb;go_enter Tryz.func83,Tryz.ntmps83;go_wp2_with fail;obtain ⟨wa,hW9,RB,RZ,hgr9⟩:=laid2 w [.int .i64 g.op,.int .i64 (ja:Int),.int .i64 (jb:Int)] 135 [.int .i64 0,.int .i64 0,.int .i64 0] 135;rewrite [hW9];clear hW9;have B_w:=hiD hgr9;clear hgr9;have BW:=B_w;have RL:=hiD (rowCells RLw.out B_w.out);have HC:=operandsO_any g.op wa;rw [HOP.out ()] at HC;obtain ⟨q0,q1,q2,ql⟩:=RB.out.cells3;go_wp2_with fail;refine HC.mono ?_;clear HC;rintro e w1 ⟨rfl,rfl⟩;go_wp2_with fail;clear q0 q1 q2 ql;refine wp_region_L (fun w'=>Row w' b 144 [.int .i64 n,.slice GA s.gates.length gc,.slice (some ad) tn tc]∧Row w' w.heap.size 135 [.int .i64 g.op,.int .i64 (ja:Int),.int .i64 (jb:Int)]∧w'.cell? (ad.add ja)=some (.int .i64 va)) [8,9] (by kernel_rfl) (by exact ⟨RL.out.drew,RB.out.drew,HCELLa.out _ BW.out.drew⟩) (fun hHeld=>?_);have RBd:Hid (Row (World.drew wa) w.heap.size 135 [.int .i64 g.op,.int .i64 (ja:Int),.int .i64 (jb:Int)]):=RB.out.drew;have RZd:Hid (Row (World.drew wa) (w.heap.size+1) 135 [.int .i64 0,.int .i64 0,.int .i64 0]):=RZ.out.drew;have RLd:Hid (Row (World.drew wa) b 144 [.int .i64 n,.slice GA s.gates.length gc,.slice (some ad) tn tc]):=RL.out.drew;have BWd:Hid (Below w.heap.size w (World.drew wa)):=BW.out.drew;clear RB RZ RL BW;revert hHeld RBd RZd RLd BWd;generalize World.drew wa=wQ;intro hHeld RB RZ RL BW;have q1:=RB.out.cell 1;have qf:=RB.out.frozen 1;have ql:=RB.out.lt;simp only [List.getElem?_cons_zero,List.getElem?_cons_succ] at q1;refine lP 0 ?_;go_simp;refine lP 1 ?_;go_simp;refine lP 2 ?_;go_simp;refine lP 4 ?_;go_simp;refine lTakeW 3 ?vb5 [[8],[9]] rfl (by rfl) ?yb5 hHeld ?rb5
  case yb5=>
   intro w' hSw;have hSh:=hiD hSw.1;have hSp:=hiD hSw.2.1;have hSc:=hSw.2.2;clear hSw;obtain ⟨z0,z1,z2,zl⟩:=hSh.out.cells3;obtain ⟨y0,y1,y2,yl⟩:=hSp.out.cells3;go_simp
   try (with_reducible rfl)
  go_simp;refine lTakeW 5 ?vb6 [[8],[9]] rfl (by rfl) ?yb6 hHeld ?rb6
  case yb6=>
   intro w' hSw;have hSh:=hiD hSw.1;have hSp:=hiD hSw.2.1;have hSc:=hSw.2.2;clear hSw;obtain ⟨z0,z1,z2,zl⟩:=hSh.out.cells3;obtain ⟨y0,y1,y2,yl⟩:=hSp.out.cells3;go_simp
   try (with_reducible rfl)
  go_simp;refine lTakeW 6 ?vb7 [[8],[9]] rfl (by rfl) ?yb7 hHeld ?rb7
  case yb7=>
   intro w' hSw;have hSh:=hiD hSw.1;have hSp:=hiD hSw.2.1;have hSc:=hSw.2.2;clear hSw;obtain ⟨z0,z1,z2,zl⟩:=hSh.out.cells3;obtain ⟨y0,y1,y2,yl⟩:=hSp.out.cells3;go_simp
   try (with_reducible rfl)
  go_simp;refine lTakeW 7 ?vb8 [[8],[9]] rfl (by rfl) ?yb8 hHeld ?rb8
  case yb8=>
   intro w' hSw;have hSh:=hiD hSw.1;have hSp:=hiD hSw.2.1;have hSc:=hSw.2.2;clear hSw;obtain ⟨z0,z1,z2,zl⟩:=hSh.out.cells3;obtain ⟨y0,y1,y2,yl⟩:=hSp.out.cells3;go_simp
   try (with_reducible rfl)
  go_simp;refine lP 8 ?_;go_simp;refine restL_one (i:=9) (by kernel_rfl) rfl (fun K hK=>?_);go_simp;refine hK.out _ _ (fun h=>absurd h (by decide)) (fun _=>?_);clear hK K
  try go_simp
  refine restL_done (by kernel_rfl) ?_ _;have RB9:Hid (Row (World.setCell wQ ⟨w.heap.size,1,none⟩ (.int .i64 va)) w.heap.size 135 [.int .i64 g.op,.int .i64 va,.int .i64 (jb:Int)]):=RB.out.set 1 _;have RZ9:Hid (Row (World.setCell wQ ⟨w.heap.size,1,none⟩ (.int .i64 va)) (w.heap.size+1) 135 [.int .i64 0,.int .i64 0,.int .i64 0]):=RZ.out.far (p:=⟨w.heap.size,1,none⟩) (by show (w.heap.size+1)≠w.heap.size;omega) _;have RL9:Hid (Row (World.setCell wQ ⟨w.heap.size,1,none⟩ (.int .i64 va)) b 144 [.int .i64 n,.slice GA s.gates.length gc,.slice (some ad) tn tc]):=RL.out.far (p:=⟨w.heap.size,1,none⟩) (by show b≠w.heap.size;omega) _;have BW9:Hid (Below w.heap.size w (World.setCell wQ ⟨w.heap.size,1,none⟩ (.int .i64 va))):=BW.out.setCell (p:=⟨w.heap.size,1,none⟩) (Nat.le_refl _) _;clear RB RZ RL BW q1 qf ql hHeld;revert RB9 RZ9 RL9 BW9;generalize (World.setCell wQ ⟨w.heap.size,1,none⟩ (.int .i64 va))=wb;intro RB RZ RL BW;go_wp2_with fail;refine wp_region_L (fun w'=>Row w' b 144 [.int .i64 n,.slice GA s.gates.length gc,.slice (some ad) tn tc]∧Row w' w.heap.size 135 [.int .i64 g.op,.int .i64 va,.int .i64 (jb:Int)]∧w'.cell? (ad.add jb)=some (.int .i64 vb)) [8,9] (by kernel_rfl) (by exact ⟨RL.out.drew,RB.out.drew,HCELLb.out _ BW.out.drew⟩) (fun hHeld=>?_);have RBd:Hid (Row (World.drew wb) w.heap.size 135 [.int .i64 g.op,.int .i64 va,.int .i64 (jb:Int)]):=RB.out.drew;have RZd:Hid (Row (World.drew wb) (w.heap.size+1) 135 [.int .i64 0,.int .i64 0,.int .i64 0]):=RZ.out.drew;have RLd:Hid (Row (World.drew wb) b 144 [.int .i64 n,.slice GA s.gates.length gc,.slice (some ad) tn tc]):=RL.out.drew;have BWd:Hid (Below w.heap.size w (World.drew wb)):=BW.out.drew;clear RB RZ RL BW;revert hHeld RBd RZd RLd BWd;generalize World.drew wb=wQ;intro hHeld RB RZ RL BW;have q2:=RB.out.cell 2;have qf:=RB.out.frozen 2;have ql:=RB.out.lt;simp only [List.getElem?_cons_zero,List.getElem?_cons_succ] at q2;refine lP 0 ?_;go_simp;refine lP 1 ?_;go_simp;refine lP 2 ?_;go_simp;refine lP 4 ?_;go_simp;refine lTakeW 3 ?vc5 [[8],[9]] rfl (by rfl) ?yc5 hHeld ?rc5
  case yc5=>
   intro w' hSw;have hSh:=hiD hSw.1;have hSp:=hiD hSw.2.1;have hSc:=hSw.2.2;clear hSw;obtain ⟨z0,z1,z2,zl⟩:=hSh.out.cells3;obtain ⟨y0,y1,y2,yl⟩:=hSp.out.cells3;go_simp
   try (with_reducible rfl)
  go_simp;refine lTakeW 5 ?vc6 [[8],[9]] rfl (by rfl) ?yc6 hHeld ?rc6
  case yc6=>
   intro w' hSw;have hSh:=hiD hSw.1;have hSp:=hiD hSw.2.1;have hSc:=hSw.2.2;clear hSw;obtain ⟨z0,z1,z2,zl⟩:=hSh.out.cells3;obtain ⟨y0,y1,y2,yl⟩:=hSp.out.cells3;go_simp
   try (with_reducible rfl)
  go_simp;refine lTakeW 6 ?vc7 [[8],[9]] rfl (by rfl) ?yc7 hHeld ?rc7
  case yc7=>
   intro w' hSw;have hSh:=hiD hSw.1;have hSp:=hiD hSw.2.1;have hSc:=hSw.2.2;clear hSw;obtain ⟨z0,z1,z2,zl⟩:=hSh.out.cells3;obtain ⟨y0,y1,y2,yl⟩:=hSp.out.cells3;go_simp
   try (with_reducible rfl)
  go_simp;refine lTakeW 7 ?vc8 [[8],[9]] rfl (by rfl) ?yc8 hHeld ?rc8
  case yc8=>
   intro w' hSw;have hSh:=hiD hSw.1;have hSp:=hiD hSw.2.1;have hSc:=hSw.2.2;clear hSw;obtain ⟨z0,z1,z2,zl⟩:=hSh.out.cells3;obtain ⟨y0,y1,y2,yl⟩:=hSp.out.cells3;go_simp
   try (with_reducible rfl)
  go_simp;refine lP 8 ?_;go_simp;refine restL_one (i:=9) (by kernel_rfl) rfl (fun K hK=>?_);go_simp;refine hK.out _ _ (fun h=>absurd h (by decide)) (fun _=>?_);clear hK K
  try go_simp
  refine restL_done (by kernel_rfl) ?_ _;have RB9:Hid (Row (World.setCell wQ ⟨w.heap.size,2,none⟩ (.int .i64 vb)) w.heap.size 135 [.int .i64 g.op,.int .i64 va,.int .i64 vb]):=RB.out.set 2 _;have RZ9:Hid (Row (World.setCell wQ ⟨w.heap.size,2,none⟩ (.int .i64 vb)) (w.heap.size+1) 135 [.int .i64 0,.int .i64 0,.int .i64 0]):=RZ.out.far (p:=⟨w.heap.size,2,none⟩) (by show (w.heap.size+1)≠w.heap.size;omega) _;have RL9:Hid (Row (World.setCell wQ ⟨w.heap.size,2,none⟩ (.int .i64 vb)) b 144 [.int .i64 n,.slice GA s.gates.length gc,.slice (some ad) tn tc]):=RL.out.far (p:=⟨w.heap.size,2,none⟩) (by show b≠w.heap.size;omega) _;have BW9:Hid (Below w.heap.size w (World.setCell wQ ⟨w.heap.size,2,none⟩ (.int .i64 vb))):=BW.out.setCell (p:=⟨w.heap.size,2,none⟩) (Nat.le_refl _) _;clear RB RZ RL BW q2 qf ql hHeld;revert RB9 RZ9 RL9 BW9;generalize (World.setCell wQ ⟨w.heap.size,2,none⟩ (.int .i64 vb))=wc;intro RB RZ RL BW;obtain ⟨q0,q1,q2,ql⟩:=RB.out.cells3;obtain ⟨z0,z1,z2,zl⟩:=RZ.out.cells3;obtain ⟨zf0,zf1,zf2⟩:=RZ.out.froz3;go_wp2;have Z9:=RZ.out.set3 (.int .i64 g.op) (.int .i64 va) (.int .i64 vb);have B9:=bSet3 BW.out (w.heap.size+1) (by show _≤(w.heap.size+1);omega) (.int .i64 g.op) (.int .i64 va) (.int .i64 vb);obtain ⟨d0,d1,d2,-⟩:=Z9.cells3;clear Z9;refine bodyPost_ret (v:=.agg #[.int .i64 g.op,.int .i64 va,.int .i64 vb]) (by simp [results,Tryz.results83,go_sem,d0,d1,d2]) rfl ?_;exact ⟨by rw [HV.out ()],B9⟩
end Go.Proofs.YtbijfnbelkbofaaGreatDoor
