/-
  Lemmas for the law TopCircuits.
-/
import Derived.Test.YtbijfnbelkbofaaGreatDoorJZ1
import Derived.Test.YtbijfnbelkbofaaGreatDoorJZ3
import Derived.Deep.Cut
set_option linter.unusedSimpArgs false
set_option linter.unusedVariables false
namespace Go.Proofs.YtbijfnbelkbofaaGreatDoor
open Go.RowKit
set_option maxRecDepth 100000 in
set_option maxHeartbeats 4000000 in
theorem notO_any (B b:Nat) (n:Int) (s:Wk) (a:Int) (w:World) (h:WkAt w B b n s) (hB:B≤w.heap.size) (hn:0≤n∧n≤1000) (hg:s.gates.length≤20000) (ht:s.tq.length≤30000) (ha:0≤a∧a < n+s.gates.length):
 Calls Tryz.prog 85 #[.pointer (some ⟨b,0,none⟩),.int .i64 a] w (fun e w'=>e=.returned (.tuple #[])∧WkAt w' B b n (addW n s (notF n s.gates a))∧WFr B w w'):=by
 have HW:=hiD h;obtain ⟨GA,gc,TA,tc,hr,hog,_,hBb⟩:=h.op;have RL:=hiD hr;have HG:Hid (Rd w w.heap.size 3 GA s.gates.length (gatesCells s.gates)):=Rd.of_own hog;clear hr hog h;obtain ⟨q0,Hq0⟩:=naM (isW n s.gates (a) 0);obtain ⟨q1,Hq1⟩:=naM (isW n s.gates (a) 1);obtain ⟨q2,Hq2⟩:=naM (isW n s.gates (a) 2)
 cases q0
 ·cases q1
  ·cases q2
   ·have HV:Hid (∀ _:Unit,notF n s.gates a=(⟨2,a,0⟩,-1)):=fun _=>by unfold notF;rw [Hq0.out (),Hq1.out (),Hq2.out ()];rfl
    clear RL HG;go_enter Tryz.func85,Tryz.ntmps85;go_wp2_with fail;have HC:=is_any B b n s (a) 0 w (HW.out) hn hg ha.2 (by omega);rw [Hq0.out ()] at HC;refine HC.mono ?_;clear HC;rintro e w1 ⟨rfl,hb⟩;have B_w:=hiD hb;clear hb;go_wp2_with fail;have HC:=is_any B b n s (a) 1 w1 (HW.out.below B_w.out) hn hg ha.2 (by omega);rw [Hq1.out ()] at HC;refine HC.mono ?_;clear HC;rintro e w2 ⟨rfl,hb⟩;have B_w:=hiD (below_on2 B_w.out hb);clear hb;go_wp2_with fail;have HC:=is_any B b n s (a) 2 w2 (HW.out.below B_w.out) hn hg ha.2 (by omega);rw [Hq2.out ()] at HC;refine HC.mono ?_;clear HC;rintro e w3 ⟨rfl,hb⟩;have B_w:=hiD (below_on2 B_w.out hb);clear hb;go_wp2_with fail;refine (add_any B b n s ⟨2,a,0⟩ (-1) w3 (HW.out.below B_w.out) (Nat.le_trans hB B_w.out.size) hn hg ht).mono ?_;rintro e w9 ⟨rfl,hwk,hfr⟩;have HWK:=hiD hwk;have HFR:Hid (WFr B w w9):=(WFr.ofBelow B_w.out hB).trans hfr;clear hwk hfr;go_wp2_with fail;go_end0;exact ⟨rfl,by rw [HV.out ()];exact HWK.out,HFR.out⟩
   ·have hle:n≤a:=by
     have hq:=Hq2.out ();unfold isW at hq;rw [Bool.and_eq_true,decide_eq_true_iff] at hq;exact hq.1
    obtain ⟨j,rfl⟩:∃ j:Nat,a=n+(j:Int):=⟨(a - n).toNat,by omega⟩
    have hj:j < s.gates.length:=by omega
    obtain ⟨ad,rfl,hab,_,c1,_⟩:=HG.out.gate hj
    obtain ⟨z,hz⟩:∃ z,(s.gates.getD j default).a=z:=⟨_,rfl⟩
    rw [hz] at c1;have HV:Hid (∀ _:Unit,notF n s.gates (n+(j:Int))=(⟨2,n+(j:Int),0⟩,z)):=fun _=>by unfold notF;rw [Hq0.out (),Hq1.out (),Hq2.out (),argW_at,hz];rfl
    have HC1:Hid (∀ W9,Below w.heap.size w W9→W9.cell? ⟨(ad.add (j * 3)).block,(ad.add (j * 3)).off+1,none⟩=some (.int .i64 z)):=fun W9 h9=>(h9.cell (by show (ad.add (j * 3)).block < _;rw [add_block];exact hab)).trans c1
    have hi1:(j:Int) < (s.gates.length:Int):=by omega
    have hw1:IntKind.i64.wrap (n+(j:Int) - n)=(j:Int):=by
     rw [show n+(j:Int) - n=(j:Int) by omega];exact IntWalk.i64_in _ (by omega)
    clear c1 hz hab HG hle;go_enter Tryz.func85,Tryz.ntmps85;go_wp2_with fail;have HC:=is_any B b n s (n+(j:Int)) 0 w (HW.out) hn hg ha.2 (by omega);rw [Hq0.out ()] at HC;refine HC.mono ?_;clear HC;rintro e w1 ⟨rfl,hb⟩;have B_w:=hiD hb;clear hb;go_wp2_with fail;have HC:=is_any B b n s (n+(j:Int)) 1 w1 (HW.out.below B_w.out) hn hg ha.2 (by omega);rw [Hq1.out ()] at HC;refine HC.mono ?_;clear HC;rintro e w2 ⟨rfl,hb⟩;have B_w:=hiD (below_on2 B_w.out hb);have B_w1:=hiD hb;clear hb;go_wp2_with fail;have HC:=is_any B b n s (n+(j:Int)) 2 w2 (HW.out.below B_w.out) hn hg ha.2 (by omega);rw [Hq2.out ()] at HC;refine HC.mono ?_;clear HC;rintro e w3 ⟨rfl,hb⟩;have B_w:=hiD (below_on2 B_w.out hb);have B_w2:=hiD hb;clear hb;go_wp2_with fail;refine wp_region_L (fun w'=>Row w' b 144 [.int .i64 n,.slice (some ad) s.gates.length gc,.slice TA s.tq.length tc]∧w'.cell? ⟨(ad.add (j * 3)).block,(ad.add (j * 3)).off+1,none⟩=some (.int .i64 z)) [16] (by kernel_rfl) (by exact ⟨Row.drew (rowCells RL.out B_w.out),HC1.out _ B_w.out.drew⟩) (fun hHeld=>?_);have BWd:Hid (Below w.heap.size w (World.drew w3)):=B_w.out.drew;clear B_w B_w1 B_w2;revert hHeld BWd;generalize World.drew w3=wQ;intro hHeld B_w;refine lP 0 ?_;go_simp;refine lP 1 ?_;go_simp;refine lP 2 ?_;go_simp;refine lP 3 ?_;go_simp;refine lP 4 ?_;go_simp;refine lP 5 ?_;go_simp;refine lP 7 ?_;go_simp;refine lP 8 ?_;go_simp;refine lP 9 ?_;go_simp;refine lP 10 ?_;go_simp;refine lTakeW 6 ?va11 [[16,15,14,13]] rfl (by rfl) ?ya11 hHeld ?ra11
    case ya11=>
     intro w' hSw;have hSh:=hiD hSw.1;have hSc:=hSw.2;clear hSw;obtain ⟨z0,z1,z2,zl⟩:=hSh.out.cells3;go_simp
     try (with_reducible rfl)
    go_simp;refine lTakeW 11 ?va12 [[16,15,14,13,12]] rfl (by rfl) ?ya12 hHeld ?ra12
    case ya12=>
     intro w' hSw;have hSh:=hiD hSw.1;have hSc:=hSw.2;clear hSw;obtain ⟨z0,z1,z2,zl⟩:=hSh.out.cells3;go_simp
     try (with_reducible rfl)
    go_simp;refine lP 12 ?_;go_simp;refine lTakeW 13 ?va14 [[16,15,14]] rfl (by rfl) ?ya14 hHeld ?ra14
    case ya14=>
     intro w' hSw;have hSh:=hiD hSw.1;have hSc:=hSw.2;clear hSw;obtain ⟨z0,z1,z2,zl⟩:=hSh.out.cells3;go_simp
     try (with_reducible rfl)
    go_simp;refine lP 14 ?_;go_simp;refine lTakeW 15 ?va16 [[16]] rfl (by rfl) ?ya16 hHeld ?ra16
    case ya16=>
     intro w' hSw;have hSh:=hiD hSw.1;have hSc:=hSw.2;clear hSw;obtain ⟨z0,z1,z2,zl⟩:=hSh.out.cells3;go_simp
     try (with_reducible rfl)
    go_simp;refine restL_one (i:=16) (by kernel_rfl) rfl (fun K hK=>?_);go_simp
    go_at_call 82
    refine (add_any B b n s ⟨2,n+(j:Int),0⟩ z wQ (HW.out.below B_w.out) (Nat.le_trans hB B_w.out.size) hn hg ht).mono ?_;rintro e w9 ⟨rfl,hwk,hfr⟩;have HWK:=hiD hwk;have HFR:Hid (WFr B w w9):=(WFr.ofBelow B_w.out hB).trans hfr;clear hwk hfr hHeld;refine hK.out _ _ (fun h=>absurd h (by decide)) (fun _=>?_);clear hK K
    try go_simp
    refine restL_done (by kernel_rfl) ?_ _;go_wp2_with fail;go_end0;exact ⟨rfl,by rw [HV.out ()];exact HWK.out,HFR.out⟩
  ·have HV:Hid (∀ _:Unit,notF n s.gates a=(⟨0,0,0⟩,-1)):=fun _=>by unfold notF;rw [Hq0.out (),Hq1.out ()];rfl
   clear RL HG Hq2;go_enter Tryz.func85,Tryz.ntmps85;go_wp2_with fail;have HC:=is_any B b n s (a) 0 w (HW.out) hn hg ha.2 (by omega);rw [Hq0.out ()] at HC;refine HC.mono ?_;clear HC;rintro e w1 ⟨rfl,hb⟩;have B_w:=hiD hb;clear hb;go_wp2_with fail;have HC:=is_any B b n s (a) 1 w1 (HW.out.below B_w.out) hn hg ha.2 (by omega);rw [Hq1.out ()] at HC;refine HC.mono ?_;clear HC;rintro e w2 ⟨rfl,hb⟩;have B_w:=hiD (below_on2 B_w.out hb);clear hb;go_wp2_with fail;refine (add_any B b n s ⟨0,0,0⟩ (-1) w2 (HW.out.below B_w.out) (Nat.le_trans hB B_w.out.size) hn hg ht).mono ?_;rintro e w9 ⟨rfl,hwk,hfr⟩;have HWK:=hiD hwk;have HFR:Hid (WFr B w w9):=(WFr.ofBelow B_w.out hB).trans hfr;clear hwk hfr;go_wp2_with fail;go_end0;exact ⟨rfl,by rw [HV.out ()];exact HWK.out,HFR.out⟩
 ·have HV:Hid (∀ _:Unit,notF n s.gates a=(⟨1,0,0⟩,-1)):=fun _=>by unfold notF;rw [Hq0.out ()];rfl
  clear RL HG Hq1 Hq2;go_enter Tryz.func85,Tryz.ntmps85;go_wp2_with fail;have HC:=is_any B b n s (a) 0 w (HW.out) hn hg ha.2 (by omega);rw [Hq0.out ()] at HC;refine HC.mono ?_;clear HC;rintro e w1 ⟨rfl,hb⟩;have B_w:=hiD hb;clear hb;go_wp2_with fail;refine (add_any B b n s ⟨1,0,0⟩ (-1) w1 (HW.out.below B_w.out) (Nat.le_trans hB B_w.out.size) hn hg ht).mono ?_;rintro e w9 ⟨rfl,hwk,hfr⟩;have HWK:=hiD hwk;have HFR:Hid (WFr B w w9):=(WFr.ofBelow B_w.out hB).trans hfr;clear hwk hfr;go_wp2_with fail;go_end0;exact ⟨rfl,by rw [HV.out ()];exact HWK.out,HFR.out⟩
end Go.Proofs.YtbijfnbelkbofaaGreatDoor
namespace Go.Proofs.YtbijfnbelkbofaaGreatDoor
open Go.RowKit
set_option maxRecDepth 100000 in
set_option maxHeartbeats 8000000 in
theorem either_any (B b:Nat) (n:Int) (s:Wk) (g:Gt) (ab ne:Int) (w:World) (h:WkAt w B b n s) (hB:B≤w.heap.size) (hn:0≤n∧n≤1000) (hg:s.gates.length≤20000) (ht:s.tq.length≤30000) (hga:0≤g.a∧g.a < n+s.gates.length) (hgb:0≤g.b∧g.b < n+s.gates.length):
 Calls Tryz.prog 86 #[.pointer (some ⟨b,0,none⟩),.agg #[.int .i64 g.op,.int .i64 g.a,.int .i64 g.b],.int .i64 ab,.int .i64 ne] w (fun e w'=>e=.returned (.tuple #[])∧WkAt w' B b n (addW n s (eitherF n s.gates g ab ne))∧WFr B w w'):=by
 have HW:=hiD h;clear h;obtain ⟨qa,Hqa⟩:=naM (isW n s.gates (g.a) ab);obtain ⟨qb,Hqb⟩:=naM (isW n s.gates (g.b) ab);obtain ⟨qc,Hqc⟩:=naM (isW n s.gates (g.a) ne);obtain ⟨qd,Hqd⟩:=naM (isW n s.gates (g.b) ne);obtain ⟨qo,Hqo⟩:=naM (oppW n s.gates g.a g.b);go_enter Tryz.func86,Tryz.ntmps86;go_wp2_with fail;obtain ⟨wa,hW9,RB,hgr9⟩:=laid1 w [.int .i64 g.op,.int .i64 g.a,.int .i64 g.b] 135;rewrite [hW9];clear hW9;have B_w:=hiD hgr9;clear hgr9;obtain ⟨k0,k1,k2,kl⟩:=RB.out.cells3;go_wp2_with fail;have HC:=is_any B b n s (g.a) ab wa (HW.out.below B_w.out) hn hg hga.2 (by omega);rw [Hqa.out ()] at HC;refine HC.mono ?_;clear HC;rintro e w1 ⟨rfl,hb⟩;have B_w:=hiD (below_on2 B_w.out hb);have B_wa:=hiD hb;clear k0 k1 k2 kl;clear hb
 cases qa
 ·skip
  obtain ⟨k0,k1,k2,kl⟩:=(rowCells RB.out B_wa.out).cells3;go_wp2_with fail;have HC:=is_any B b n s (g.b) ab w1 (HW.out.below B_w.out) hn hg hgb.2 (by omega);rw [Hqb.out ()] at HC;refine HC.mono ?_;clear HC;rintro e w2 ⟨rfl,hb⟩;have B_w:=hiD (below_on2 B_w.out hb);have B_wa:=hiD (below_on2 B_wa.out hb);clear k0 k1 k2 kl;clear hb
  cases qb
  ·skip
   obtain ⟨k0,k1,k2,kl⟩:=(rowCells RB.out B_wa.out).cells3;go_wp2_with fail;have HC:=is_any B b n s (g.a) ne w2 (HW.out.below B_w.out) hn hg hga.2 (by omega);rw [Hqc.out ()] at HC;refine HC.mono ?_;clear HC;rintro e w3 ⟨rfl,hb⟩;have B_w:=hiD (below_on2 B_w.out hb);have B_wa:=hiD (below_on2 B_wa.out hb);clear k0 k1 k2 kl;clear hb
   cases qc
   ·skip
    obtain ⟨k0,k1,k2,kl⟩:=(rowCells RB.out B_wa.out).cells3;go_wp2_with fail;have HC:=is_any B b n s (g.b) ne w3 (HW.out.below B_w.out) hn hg hgb.2 (by omega);rw [Hqd.out ()] at HC;refine HC.mono ?_;clear HC;rintro e w4 ⟨rfl,hb⟩;have B_w:=hiD (below_on2 B_w.out hb);have B_wa:=hiD (below_on2 B_wa.out hb);clear k0 k1 k2 kl;clear hb
    cases qd
    ·skip
     by_cases heq:g.a=g.b
     ·have Hqe:=hiU heq;have hdq:(g.a == g.b)=true:=by simp [heq]
      have hdr:decide (g.a=g.b)=true:=decide_eq_true heq;clear heq;obtain ⟨k0,k1,k2,kl⟩:=(rowCells RB.out B_wa.out).cells3;go_wp2_with fail;refine (add_any B b n s g (g.a) w4 (HW.out.below B_w.out) (Nat.le_trans hB B_w.out.size) hn hg ht).mono ?_;rintro e w9 ⟨rfl,hwk,hfr⟩;have HWK:=hiD hwk;have HFR:Hid (WFr B w w9):=(WFr.ofBelow B_w.out hB).trans hfr;clear hwk hfr;go_wp2_with fail;go_end0;exact ⟨rfl,by rw [(show eitherF n s.gates g ab ne=((g,g.a):Gt × Int) from by simp [eitherF,Hqa.out (),Hqb.out (),Hqc.out (),Hqd.out (),Hqe.out ()])];exact HWK.out,HFR.out⟩
     ·have Hqe:=hiU heq;have hdq:(g.a == g.b)=false:=by simp [heq]
      have hdr:decide (g.a=g.b)=false:=decide_eq_false heq;clear heq;obtain ⟨k0,k1,k2,kl⟩:=(rowCells RB.out B_wa.out).cells3;go_wp2_with fail;have HC:=opp_any B b n s g.a g.b w4 (HW.out.below B_w.out) hn hg hga.2 (by omega) hgb.2 (by omega);rw [Hqo.out ()] at HC;refine HC.mono ?_;clear HC;rintro e w5 ⟨rfl,hb⟩;have B_w:=hiD (below_on2 B_w.out hb);have B_wa:=hiD (below_on2 B_wa.out hb);clear k0 k1 k2 kl;clear hb
      cases qo
      ·skip
       obtain ⟨k0,k1,k2,kl⟩:=(rowCells RB.out B_wa.out).cells3;go_wp2_with fail;refine (add_any B b n s g (-1) w5 (HW.out.below B_w.out) (Nat.le_trans hB B_w.out.size) hn hg ht).mono ?_;rintro e w9 ⟨rfl,hwk,hfr⟩;have HWK:=hiD hwk;have HFR:Hid (WFr B w w9):=(WFr.ofBelow B_w.out hB).trans hfr;clear hwk hfr;go_wp2_with fail;go_end0;exact ⟨rfl,by rw [(show eitherF n s.gates g ab ne=((g,-1):Gt × Int) from by simp [eitherF,Hqa.out (),Hqb.out (),Hqc.out (),Hqd.out (),Hqe.out (),Hqo.out ()])];exact HWK.out,HFR.out⟩
      ·skip
       obtain ⟨k0,k1,k2,kl⟩:=(rowCells RB.out B_wa.out).cells3;go_wp2_with fail;refine (add_any B b n s ⟨ab,0,0⟩ (-1) w5 (HW.out.below B_w.out) (Nat.le_trans hB B_w.out.size) hn hg ht).mono ?_;rintro e w9 ⟨rfl,hwk,hfr⟩;have HWK:=hiD hwk;have HFR:Hid (WFr B w w9):=(WFr.ofBelow B_w.out hB).trans hfr;clear hwk hfr;go_wp2_with fail;go_end0;exact ⟨rfl,by rw [(show eitherF n s.gates g ab ne=((⟨ab,0,0⟩,-1):Gt × Int) from by simp [eitherF,Hqa.out (),Hqb.out (),Hqc.out (),Hqd.out (),Hqe.out (),Hqo.out ()])];exact HWK.out,HFR.out⟩
    ·skip
     obtain ⟨k0,k1,k2,kl⟩:=(rowCells RB.out B_wa.out).cells3;go_wp2_with fail;refine (add_any B b n s g (g.a) w4 (HW.out.below B_w.out) (Nat.le_trans hB B_w.out.size) hn hg ht).mono ?_;rintro e w9 ⟨rfl,hwk,hfr⟩;have HWK:=hiD hwk;have HFR:Hid (WFr B w w9):=(WFr.ofBelow B_w.out hB).trans hfr;clear hwk hfr;go_wp2_with fail;go_end0;exact ⟨rfl,by rw [(show eitherF n s.gates g ab ne=((g,g.a):Gt × Int) from by simp [eitherF,Hqa.out (),Hqb.out (),Hqc.out (),Hqd.out ()])];exact HWK.out,HFR.out⟩
   ·skip
    obtain ⟨k0,k1,k2,kl⟩:=(rowCells RB.out B_wa.out).cells3;go_wp2_with fail;refine (add_any B b n s g (g.b) w3 (HW.out.below B_w.out) (Nat.le_trans hB B_w.out.size) hn hg ht).mono ?_;rintro e w9 ⟨rfl,hwk,hfr⟩;have HWK:=hiD hwk;have HFR:Hid (WFr B w w9):=(WFr.ofBelow B_w.out hB).trans hfr;clear hwk hfr;go_wp2_with fail;go_end0;exact ⟨rfl,by rw [(show eitherF n s.gates g ab ne=((g,g.b):Gt × Int) from by simp [eitherF,Hqa.out (),Hqb.out (),Hqc.out ()])];exact HWK.out,HFR.out⟩
  ·skip
   obtain ⟨k0,k1,k2,kl⟩:=(rowCells RB.out B_wa.out).cells3;go_wp2_with fail;refine (add_any B b n s ⟨ab,0,0⟩ (-1) w2 (HW.out.below B_w.out) (Nat.le_trans hB B_w.out.size) hn hg ht).mono ?_;rintro e w9 ⟨rfl,hwk,hfr⟩;have HWK:=hiD hwk;have HFR:Hid (WFr B w w9):=(WFr.ofBelow B_w.out hB).trans hfr;clear hwk hfr;go_wp2_with fail;go_end0;exact ⟨rfl,by rw [(show eitherF n s.gates g ab ne=((⟨ab,0,0⟩,-1):Gt × Int) from by simp [eitherF,Hqa.out (),Hqb.out ()])];exact HWK.out,HFR.out⟩
 ·skip
  obtain ⟨k0,k1,k2,kl⟩:=(rowCells RB.out B_wa.out).cells3;go_wp2_with fail;refine (add_any B b n s ⟨ab,0,0⟩ (-1) w1 (HW.out.below B_w.out) (Nat.le_trans hB B_w.out.size) hn hg ht).mono ?_;rintro e w9 ⟨rfl,hwk,hfr⟩;have HWK:=hiD hwk;have HFR:Hid (WFr B w w9):=(WFr.ofBelow B_w.out hB).trans hfr;clear hwk hfr;go_wp2_with fail;go_end0;exact ⟨rfl,by rw [(show eitherF n s.gates g ab ne=((⟨ab,0,0⟩,-1):Gt × Int) from by simp [eitherF,Hqa.out ()])];exact HWK.out,HFR.out⟩
set_option maxRecDepth 100000 in
set_option maxHeartbeats 8000000 in
theorem xor_any (B b:Nat) (n:Int) (s:Wk) (g:Gt) (w:World) (h:WkAt w B b n s) (hB:B≤w.heap.size) (hn:0≤n∧n≤1000) (hg:s.gates.length≤20000) (ht:s.tq.length≤30000) (hga:0≤g.a∧g.a < n+s.gates.length) (hgb:0≤g.b∧g.b < n+s.gates.length):
 Calls Tryz.prog 87 #[.pointer (some ⟨b,0,none⟩),.agg #[.int .i64 g.op,.int .i64 g.a,.int .i64 g.b]] w (fun e w'=>e=.returned (.tuple #[])∧WkAt w' B b n (addW n s (xorF n s.gates g))∧WFr B w w'):=by
 have HW:=hiD h;clear h;obtain ⟨qa,Hqa⟩:=naM (isW n s.gates (g.a) 0);obtain ⟨qb,Hqb⟩:=naM (isW n s.gates (g.b) 0);obtain ⟨qc,Hqc⟩:=naM (isW n s.gates (g.a) 1);obtain ⟨qd,Hqd⟩:=naM (isW n s.gates (g.b) 1);obtain ⟨qo,Hqo⟩:=naM (oppW n s.gates g.a g.b);go_enter Tryz.func87,Tryz.ntmps87;go_wp2_with fail;obtain ⟨wa,hW9,RB,hgr9⟩:=laid1 w [.int .i64 g.op,.int .i64 g.a,.int .i64 g.b] 135;rewrite [hW9];clear hW9;have B_w:=hiD hgr9;clear hgr9;obtain ⟨k0,k1,k2,kl⟩:=RB.out.cells3;go_wp2_with fail;have HC:=is_any B b n s (g.a) 0 wa (HW.out.below B_w.out) hn hg hga.2 (by omega);rw [Hqa.out ()] at HC;refine HC.mono ?_;clear HC;rintro e w6 ⟨rfl,hb⟩;have B_w:=hiD (below_on2 B_w.out hb);have B_wa:=hiD hb;clear k0 k1 k2 kl;clear hb
 cases qa
 ·skip
  obtain ⟨k0,k1,k2,kl⟩:=(rowCells RB.out B_wa.out).cells3;go_wp2_with fail;have HC:=is_any B b n s (g.b) 0 w6 (HW.out.below B_w.out) hn hg hgb.2 (by omega);rw [Hqb.out ()] at HC;refine HC.mono ?_;clear HC;rintro e w7 ⟨rfl,hb⟩;have B_w:=hiD (below_on2 B_w.out hb);have B_wa:=hiD (below_on2 B_wa.out hb);clear k0 k1 k2 kl;clear hb
  cases qb
  ·skip
   by_cases heq:g.a=g.b
   ·have Hqe:=hiU heq;have hdq:(g.a == g.b)=true:=by simp [heq]
    have hdr:decide (g.a=g.b)=true:=decide_eq_true heq;clear heq;obtain ⟨k0,k1,k2,kl⟩:=(rowCells RB.out B_wa.out).cells3;go_wp2_with fail;refine (add_any B b n s ⟨0,0,0⟩ (-1) w7 (HW.out.below B_w.out) (Nat.le_trans hB B_w.out.size) hn hg ht).mono ?_;rintro e w9 ⟨rfl,hwk,hfr⟩;have HWK:=hiD hwk;have HFR:Hid (WFr B w w9):=(WFr.ofBelow B_w.out hB).trans hfr;clear hwk hfr;go_wp2_with fail;go_end0;exact ⟨rfl,by rw [(show xorF n s.gates g=((⟨0,0,0⟩,-1):Gt × Int) from by simp [xorF,Hqa.out (),Hqb.out (),Hqe.out ()])];exact HWK.out,HFR.out⟩
   ·have Hqe:=hiU heq;have hdq:(g.a == g.b)=false:=by simp [heq]
    have hdr:decide (g.a=g.b)=false:=decide_eq_false heq;clear heq;obtain ⟨k0,k1,k2,kl⟩:=(rowCells RB.out B_wa.out).cells3;go_wp2_with fail;have HC:=opp_any B b n s g.a g.b w7 (HW.out.below B_w.out) hn hg hga.2 (by omega) hgb.2 (by omega);rw [Hqo.out ()] at HC;refine HC.mono ?_;clear HC;rintro e w8 ⟨rfl,hb⟩;have B_w:=hiD (below_on2 B_w.out hb);have B_wa:=hiD (below_on2 B_wa.out hb);clear k0 k1 k2 kl;clear hb
    cases qo
    ·skip
     obtain ⟨k0,k1,k2,kl⟩:=(rowCells RB.out B_wa.out).cells3;go_wp2_with fail;have HC:=is_any B b n s (g.a) 1 w8 (HW.out.below B_w.out) hn hg hga.2 (by omega);rw [Hqc.out ()] at HC;refine HC.mono ?_;clear HC;rintro e w9 ⟨rfl,hb⟩;have B_w:=hiD (below_on2 B_w.out hb);have B_wa:=hiD (below_on2 B_wa.out hb);clear k0 k1 k2 kl;clear hb
     cases qc
     ·skip
      obtain ⟨k0,k1,k2,kl⟩:=(rowCells RB.out B_wa.out).cells3;go_wp2_with fail;have HC:=is_any B b n s (g.b) 1 w9 (HW.out.below B_w.out) hn hg hgb.2 (by omega);rw [Hqd.out ()] at HC;refine HC.mono ?_;clear HC;rintro e w10 ⟨rfl,hb⟩;have B_w:=hiD (below_on2 B_w.out hb);have B_wa:=hiD (below_on2 B_wa.out hb);clear k0 k1 k2 kl;clear hb
      cases qd
      ·skip
       obtain ⟨k0,k1,k2,kl⟩:=(rowCells RB.out B_wa.out).cells3;go_wp2_with fail;refine (add_any B b n s g (-1) w10 (HW.out.below B_w.out) (Nat.le_trans hB B_w.out.size) hn hg ht).mono ?_;rintro e w9 ⟨rfl,hwk,hfr⟩;have HWK:=hiD hwk;have HFR:Hid (WFr B w w9):=(WFr.ofBelow B_w.out hB).trans hfr;clear hwk hfr;go_wp2_with fail;go_end0;exact ⟨rfl,by rw [(show xorF n s.gates g=((g,-1):Gt × Int) from by simp [xorF,Hqa.out (),Hqb.out (),Hqe.out (),Hqo.out (),Hqc.out (),Hqd.out ()])];exact HWK.out,HFR.out⟩
      ·skip
       obtain ⟨k0,k1,k2,kl⟩:=(rowCells RB.out B_wa.out).cells3;go_wp2_with fail;refine (notO_any B b n s g.a w10 (HW.out.below B_w.out) (Nat.le_trans hB B_w.out.size) hn hg ht hga).mono ?_;rintro e w9 ⟨rfl,hwk,hfr⟩;have HWK:=hiD hwk;have HFR:Hid (WFr B w w9):=(WFr.ofBelow B_w.out hB).trans hfr;clear hwk hfr;go_wp2_with fail;go_end0;exact ⟨rfl,by rw [(show xorF n s.gates g=notF n s.gates g.a from by simp [xorF,Hqa.out (),Hqb.out (),Hqe.out (),Hqo.out (),Hqc.out (),Hqd.out ()])];exact HWK.out,HFR.out⟩
     ·skip
      obtain ⟨k0,k1,k2,kl⟩:=(rowCells RB.out B_wa.out).cells3;go_wp2_with fail;refine (notO_any B b n s g.b w9 (HW.out.below B_w.out) (Nat.le_trans hB B_w.out.size) hn hg ht hgb).mono ?_;rintro e w9 ⟨rfl,hwk,hfr⟩;have HWK:=hiD hwk;have HFR:Hid (WFr B w w9):=(WFr.ofBelow B_w.out hB).trans hfr;clear hwk hfr;go_wp2_with fail;go_end0;exact ⟨rfl,by rw [(show xorF n s.gates g=notF n s.gates g.b from by simp [xorF,Hqa.out (),Hqb.out (),Hqe.out (),Hqo.out (),Hqc.out ()])];exact HWK.out,HFR.out⟩
    ·skip
     obtain ⟨k0,k1,k2,kl⟩:=(rowCells RB.out B_wa.out).cells3;go_wp2_with fail;refine (add_any B b n s ⟨1,0,0⟩ (-1) w8 (HW.out.below B_w.out) (Nat.le_trans hB B_w.out.size) hn hg ht).mono ?_;rintro e w9 ⟨rfl,hwk,hfr⟩;have HWK:=hiD hwk;have HFR:Hid (WFr B w w9):=(WFr.ofBelow B_w.out hB).trans hfr;clear hwk hfr;go_wp2_with fail;go_end0;exact ⟨rfl,by rw [(show xorF n s.gates g=((⟨1,0,0⟩,-1):Gt × Int) from by simp [xorF,Hqa.out (),Hqb.out (),Hqe.out (),Hqo.out ()])];exact HWK.out,HFR.out⟩
  ·skip
   obtain ⟨k0,k1,k2,kl⟩:=(rowCells RB.out B_wa.out).cells3;go_wp2_with fail;refine (add_any B b n s g (g.a) w7 (HW.out.below B_w.out) (Nat.le_trans hB B_w.out.size) hn hg ht).mono ?_;rintro e w9 ⟨rfl,hwk,hfr⟩;have HWK:=hiD hwk;have HFR:Hid (WFr B w w9):=(WFr.ofBelow B_w.out hB).trans hfr;clear hwk hfr;go_wp2_with fail;go_end0;exact ⟨rfl,by rw [(show xorF n s.gates g=((g,g.a):Gt × Int) from by simp [xorF,Hqa.out (),Hqb.out ()])];exact HWK.out,HFR.out⟩
 ·skip
  obtain ⟨k0,k1,k2,kl⟩:=(rowCells RB.out B_wa.out).cells3;go_wp2_with fail;refine (add_any B b n s g (g.b) w6 (HW.out.below B_w.out) (Nat.le_trans hB B_w.out.size) hn hg ht).mono ?_;rintro e w9 ⟨rfl,hwk,hfr⟩;have HWK:=hiD hwk;have HFR:Hid (WFr B w w9):=(WFr.ofBelow B_w.out hB).trans hfr;clear hwk hfr;go_wp2_with fail;go_end0;exact ⟨rfl,by rw [(show xorF n s.gates g=((g,g.b):Gt × Int) from by simp [xorF,Hqa.out ()])];exact HWK.out,HFR.out⟩
end Go.Proofs.YtbijfnbelkbofaaGreatDoor
