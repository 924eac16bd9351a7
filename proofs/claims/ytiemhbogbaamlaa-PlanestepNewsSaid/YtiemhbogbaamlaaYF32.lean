/-
 A part.
-/
import Derived.Test.YtiemhbogbaamlaaYF9
import Derived.Test.YtiemhbogbaamlaaYF11
import Derived.Test.YtiemhbogbaamlaaYF7
import Derived.Deep.Cut
import Derived.Test.YtiemhbogbaamlaaYF6
set_option linter.unusedSimpArgs false
set_option linter.unusedVariables false
namespace Go.Proofs.Ytiemhbogbaamlaa
open Go.RowKit
set_option maxRecDepth 100000 in
set_option maxHeartbeats 1000000 in
theorem rOps_any (op:Int) (w:World):Calls Try.prog 95 #[.int .i64 op] w fun e w'=>e=.returned (.int .i64 (operandsO op))∧w=w':=by
 by_cases h0:op=0
 ·subst h0
  go_enter Try.func95,Try.ntmps95
  go_wp2
  go_ret
  exact ⟨rfl,rfl⟩
 by_cases h1:op=1
 ·subst h1
  go_enter Try.func95,Try.ntmps95
  go_wp2
  go_ret
  exact ⟨rfl,rfl⟩
 by_cases h2:op=2
 ·subst h2
  go_enter Try.func95,Try.ntmps95
  go_wp2
  go_ret
  exact ⟨rfl,rfl⟩
 have HV:Hid (∀ _:Unit,operandsO op=2):=fun _=>by unfold operandsO;rw [if_neg (by omega),if_neg h2]
 have e0:(op == 0)=false:=by simpa using h0
 have e1:(op == 1)=false:=by simpa using h1
 have e2:(op == 2)=false:=by simpa using h2
 go_enter Try.func95,Try.ntmps95
 go_wp2
 go_ret
 exact ⟨ret_i64 (HV.out ()).symm,rfl⟩
set_option maxRecDepth 100000 in
set_option maxHeartbeats 2000000 in
theorem rIs_any (n:Int) (gs:List Gt) (GA OA:Option Addr) (gn gc on oc:Nat) (x op:Int) (w:World) (hG:Rd w w.heap.size 3 GA gn (gatesCells gs)) (hn:0≤n∧n≤1000) (hg:gn≤20000) (hx:x < n+(gn:Int)) (hx0:-1000000≤x):
 Calls Try.prog 107 #[.agg #[.int .i64 n,.slice GA gn gc,.slice OA on oc],.int .i64 x,.int .i64 op] w fun e w'=>e=.returned (.bool (isW n gs x op))∧Below w.heap.size w w':=by
 have HG:=hiD hG
 clear hG
 by_cases hle:n≤x
 ·obtain ⟨j,rfl⟩:∃ j:Nat,x=n+(j:Int):=⟨(x - n).toNat,by omega⟩
  have hj:j < gn:=by omega
  obtain ⟨ad,rfl,hab,c0,_,_⟩:=HG.out.gate hj
  have HV:Hid (∀ _:Unit,isW n gs (n+(j:Int)) op=decide ((gs.getD j default).op=op)):=fun _=>isW_at _ _ _ _
  generalize (gs.getD j default).op=z at c0 HV
  have hd:decide (n≤n+(j:Int))=true:=decide_eq_true hle
  have hi1:(j:Int) < (gn:Int):=by omega
  have hw3:n+(j:Int) - n=(j:Int):=by omega
  have hw1:IntKind.i64.wrap (n+(j:Int) - n)=(j:Int):=by
   rw [show n+(j:Int) - n=(j:Int) by omega]
   exact IntWalk.i64_in _ (by omega)
  have HC0:Hid (∀ W9,Below w.heap.size w W9→W9.cell? (ad.add (j * 3))=some (.int .i64 z)):=fun W9 h9=>(h9.cell (by rw [add_block];exact hab)).trans c0
  have HAB:Hid (∀ W9,Below w.heap.size w W9→ad.block < W9.heap.size):=fun W9 h9=>Nat.lt_of_lt_of_le hab h9.size
  clear hx hle c0 hab
  go_enter Try.func107,Try.ntmps107
  go_upto_region 1 with fail
  obtain ⟨wa,hW9,RC,hgr9⟩:=laid1 w [.int .i64 n,.slice (some ad) gn gc,.slice OA on oc] 37
  rewrite [hW9]
  clear hW9
  have B_w:=hiD hgr9
  clear hgr9
  have c0:=HC0.out wa B_w.out
  have hab:=HAB.out wa B_w.out
  obtain ⟨k0,k1,k2,kl⟩:=RC.out.cells3
  go_wp2_with fail
  go_ret
  exact ⟨ret_bool (by first | exact (HV.out ()).symm | (rw [HV.out ()];first | rfl | (simp;done) | (rw [Bool.eq_iff_iff];simp;omega))),B_w.out⟩
 ·have HV:Hid (∀ _:Unit,isW n gs x op=false):=fun _=>isW_low hle
  have hd:decide (n≤x)=false:=decide_eq_false hle
  clear hx
  go_enter Try.func107,Try.ntmps107
  go_upto_region 1 with fail
  obtain ⟨wa,hW9,RC,hgr9⟩:=laid1 w [.int .i64 n,.slice GA gn gc,.slice OA on oc] 37
  rewrite [hW9]
  clear hW9
  have B_w:=hiD hgr9
  clear hgr9
  obtain ⟨k0,k1,k2,kl⟩:=RC.out.cells3
  go_wp2_with fail
  go_ret
  exact ⟨ret_bool (by rw [HV.out ()]),B_w.out⟩
theorem isW_data {n:Int} {gs:List Gt} {GA:Option Addr} {gn:Nat} {w:World} (hG:Rd w w.heap.size 3 GA gn (gatesCells gs)) {x:Int} (h:isW n gs x 2=true) (hx:x < n+(gn:Int)):
 ∃ (j:Nat) (ad:Addr),x=n+(j:Int)∧j < gn∧GA=some ad∧ad.block < w.heap.size∧(∀ W9,Below w.heap.size w W9→W9.cell? ⟨(ad.add (j * 3)).block,(ad.add (j * 3)).off+1,none⟩=some (.int .i64 (argW n gs x))):=by
 have hle:n≤x:=by
  unfold isW at h
  rw [Bool.and_eq_true,decide_eq_true_iff] at h
  exact h.1
 obtain ⟨j,rfl⟩:∃ j:Nat,x=n+(j:Int):=⟨(x - n).toNat,by omega⟩
 have hj:j < gn:=by omega
 obtain ⟨ad,e,hab,_,c1,_⟩:=hG.gate hj
 refine ⟨j,ad,rfl,hj,e,hab,fun W9 h9=>?_⟩
 rw [argW_at]
 exact (h9.cell (by show (ad.add (j * 3)).block < _;rw [add_block];exact hab)).trans c1
set_option maxRecDepth 100000 in
set_option maxHeartbeats 4000000 in
theorem rOpp_any (n:Int) (gs:List Gt) (GA OA:Option Addr) (gn gc on oc:Nat) (x y:Int) (w:World) (hG:Rd w w.heap.size 3 GA gn (gatesCells gs)) (hn:0≤n∧n≤1000) (hg:gn≤20000) (hx:x < n+(gn:Int)) (hx0:-1000000≤x) (hy:y < n+(gn:Int)) (hy0:-1000000≤y):
 Calls Try.prog 108 #[.agg #[.int .i64 n,.slice GA gn gc,.slice OA on oc],.int .i64 x,.int .i64 y] w fun e w'=>e=.returned (.bool (oppW n gs x y))∧Below w.heap.size w w':=by
 have HG:=hiD hG
 clear hG
 obtain ⟨q1,h1⟩:∃ q,isW n gs x 2=q:=⟨_,rfl⟩
 obtain ⟨q2,h2⟩:∃ q,isW n gs y 2=q:=⟨_,rfl⟩
 have HI1:=hiU h1
 have HI2:=hiU h2
 have HOE:Hid (∀ _:Unit,oppW n gs x y=(q1 && decide (argW n gs x=y) || q2 && decide (argW n gs y=x))):=fun _=>by unfold oppW negW;rw [h1,h2]
 cases q1
 ·cases q2
  ·have HV:Hid (∀ _:Unit,oppW n gs x y=false):=fun _=>by rw [HOE.out ()];rfl
   clear h1 h2 HOE
   go_enter Try.func108,Try.ntmps108
   go_upto_region 1 with fail
   obtain ⟨wa,hW9,RC,hgr9⟩:=laid1 w [.int .i64 n,.slice GA gn gc,.slice OA on oc] 37
   rewrite [hW9]
   clear hW9
   have B_w:=hiD hgr9
   clear hgr9
   obtain ⟨k0,k1,k2,kl⟩:=RC.out.cells3
   go_wp2_with fail
   have HC:=rIs_any n gs GA OA gn gc on oc (x) 2 wa ((HG.out.up B_w.out)) hn hg hx hx0
   rw [HI1.out ()] at HC
   refine HC.mono ?_
   clear HC
   rintro e w1 ⟨rfl,hb⟩
   have B_w:=hiD (below_on2 B_w.out hb)
   have B_wa:=hiD hb
   clear k0 k1 k2 kl
   clear hb
   obtain ⟨k0,k1,k2,kl⟩:=(rowCells RC.out B_wa.out).cells3
   go_wp2_with fail
   have HC:=rIs_any n gs GA OA gn gc on oc (y) 2 w1 ((HG.out.up B_w.out)) hn hg hy hy0
   rw [HI2.out ()] at HC
   refine HC.mono ?_
   clear HC
   rintro e w2 ⟨rfl,hb⟩
   have B_w:=hiD (below_on2 B_w.out hb)
   have B_wa:=hiD (below_on2 B_wa.out hb)
   clear k0 k1 k2 kl
   clear hb
   obtain ⟨k0,k1,k2,kl⟩:=(rowCells RC.out B_wa.out).cells3
   go_wp2_with fail
   go_ret
   exact ⟨ret_bool (by first | exact (HV.out ()).symm | (rw [HV.out ()];first | rfl | (simp;done) | (rw [Bool.eq_iff_iff];simp;omega))),B_w.out⟩
  ·obtain ⟨j,ad,rfl,hj,rfl,hab,hcy⟩:=isW_data HG.out h2 hy
   have HV:Hid (∀ _:Unit,oppW n gs x (n+(j:Int))=decide (argW n gs (n+(j:Int))=x)):=fun _=>by rw [HOE.out ()];rw [Bool.false_and,Bool.false_or,Bool.true_and]
   have HCY0:=hiD hcy
   generalize argW n gs (n+(j:Int))=zy at HCY0 HV
   have HCY:=HCY0
   have hi2:(j:Int) < (gn:Int):=by omega
   have hw4:n+(j:Int) - n=(j:Int):=by omega
   have HAX:Hid (∀ W9,Below w.heap.size w W9→ad.block < W9.heap.size):=fun W9 h9=>Nat.lt_of_lt_of_le hab h9.size
   have hw2:IntKind.i64.wrap (n+(j:Int) - n)=(j:Int):=by
    rw [show n+(j:Int) - n=(j:Int) by omega]
    exact IntWalk.i64_in _ (by omega)
   clear h1 h2 HOE hcy HCY0 hab
   go_enter Try.func108,Try.ntmps108
   go_upto_region 1 with fail
   obtain ⟨wa,hW9,RC,hgr9⟩:=laid1 w [.int .i64 n,.slice (some ad) gn gc,.slice OA on oc] 37
   rewrite [hW9]
   clear hW9
   have B_w:=hiD hgr9
   clear hgr9
   obtain ⟨k0,k1,k2,kl⟩:=RC.out.cells3
   go_wp2_with fail
   have HC:=rIs_any n gs (some ad) OA gn gc on oc (x) 2 wa ((HG.out.up B_w.out)) hn hg hx hx0
   rw [HI1.out ()] at HC
   refine HC.mono ?_
   clear HC
   rintro e w1 ⟨rfl,hb⟩
   have B_w:=hiD (below_on2 B_w.out hb)
   have B_wa:=hiD hb
   clear k0 k1 k2 kl
   clear hb
   obtain ⟨k0,k1,k2,kl⟩:=(rowCells RC.out B_wa.out).cells3
   go_wp2_with fail
   have HC:=rIs_any n gs (some ad) OA gn gc on oc (n+(j:Int)) 2 w1 ((HG.out.up B_w.out)) hn hg hy hy0
   rw [HI2.out ()] at HC
   refine HC.mono ?_
   clear HC
   rintro e w2 ⟨rfl,hb⟩
   have B_w:=hiD (below_on2 B_w.out hb)
   have B_wa:=hiD (below_on2 B_wa.out hb)
   clear k0 k1 k2 kl
   clear hb
   obtain ⟨k0,k1,k2,kl⟩:=(rowCells RC.out B_wa.out).cells3
   have cy:=HCY.out _ B_w.out
   have hay:=HAX.out _ B_w.out
   go_wp2_with fail
   go_ret
   exact ⟨ret_bool (by first | exact (HV.out ()).symm | (rw [HV.out ()];first | rfl | (simp;done) | (rw [Bool.eq_iff_iff];simp;omega))),B_w.out⟩
 ·obtain ⟨i,ad,rfl,hi,rfl,hab,hcx⟩:=isW_data HG.out h1 hx
  have HCX0:=hiD hcx
  generalize hzx:argW n gs (n+(i:Int))=zx at HCX0 HOE
  have HCX:=HCX0
  have hi1:(i:Int) < (gn:Int):=by omega
  have hw3:n+(i:Int) - n=(i:Int):=by omega
  have HAX:Hid (∀ W9,Below w.heap.size w W9→ad.block < W9.heap.size):=fun W9 h9=>Nat.lt_of_lt_of_le hab h9.size
  have hw1:IntKind.i64.wrap (n+(i:Int) - n)=(i:Int):=by
   rw [show n+(i:Int) - n=(i:Int) by omega]
   exact IntWalk.i64_in _ (by omega)
  clear hcx HCX0
  by_cases hz:zx=y
  ·have HV:Hid (∀ _:Unit,oppW n gs (n+(i:Int)) y=true):=fun _=>by rw [HOE.out (),decide_eq_true hz];rfl
   subst hz
   clear h1 h2 HOE hzx hab
   go_enter Try.func108,Try.ntmps108
   go_upto_region 1 with fail
   obtain ⟨wa,hW9,RC,hgr9⟩:=laid1 w [.int .i64 n,.slice (some ad) gn gc,.slice OA on oc] 37
   rewrite [hW9]
   clear hW9
   have B_w:=hiD hgr9
   clear hgr9
   obtain ⟨k0,k1,k2,kl⟩:=RC.out.cells3
   go_wp2_with fail
   have HC:=rIs_any n gs (some ad) OA gn gc on oc (n+(i:Int)) 2 wa ((HG.out.up B_w.out)) hn hg hx hx0
   rw [HI1.out ()] at HC
   refine HC.mono ?_
   clear HC
   rintro e w1 ⟨rfl,hb⟩
   have B_w:=hiD (below_on2 B_w.out hb)
   have B_wa:=hiD hb
   clear k0 k1 k2 kl
   clear hb
   obtain ⟨k0,k1,k2,kl⟩:=(rowCells RC.out B_wa.out).cells3
   have cx:=HCX.out _ B_w.out
   have hax:=HAX.out _ B_w.out
   go_wp2_with fail
   go_ret
   exact ⟨ret_bool (by first | exact (HV.out ()).symm | (rw [HV.out ()];first | rfl | (simp;done) | (rw [Bool.eq_iff_iff];simp;omega))),B_w.out⟩
  ·have hzd:decide (zx=y)=false:=decide_eq_false hz
   have hzd2:(zx == y)=false:=by simpa using hz
   cases q2
   ·have HV:Hid (∀ _:Unit,oppW n gs (n+(i:Int)) y=false):=fun _=>by rw [HOE.out (),decide_eq_false hz];rfl
    clear h1 h2 HOE hzx hz hab
    go_enter Try.func108,Try.ntmps108
    go_upto_region 1 with fail
    obtain ⟨wa,hW9,RC,hgr9⟩:=laid1 w [.int .i64 n,.slice (some ad) gn gc,.slice OA on oc] 37
    rewrite [hW9]
    clear hW9
    have B_w:=hiD hgr9
    clear hgr9
    obtain ⟨k0,k1,k2,kl⟩:=RC.out.cells3
    go_wp2_with fail
    have HC:=rIs_any n gs (some ad) OA gn gc on oc (n+(i:Int)) 2 wa ((HG.out.up B_w.out)) hn hg hx hx0
    rw [HI1.out ()] at HC
    refine HC.mono ?_
    clear HC
    rintro e w1 ⟨rfl,hb⟩
    have B_w:=hiD (below_on2 B_w.out hb)
    have B_wa:=hiD hb
    clear k0 k1 k2 kl
    clear hb
    obtain ⟨k0,k1,k2,kl⟩:=(rowCells RC.out B_wa.out).cells3
    have cx:=HCX.out _ B_w.out
    have hax:=HAX.out _ B_w.out
    go_wp2_with fail
    clear cx hax
    have HC:=rIs_any n gs (some ad) OA gn gc on oc (y) 2 w1 ((HG.out.up B_w.out)) hn hg hy hy0
    rw [HI2.out ()] at HC
    refine HC.mono ?_
    clear HC
    rintro e w2 ⟨rfl,hb⟩
    have B_w:=hiD (below_on2 B_w.out hb)
    have B_wa:=hiD (below_on2 B_wa.out hb)
    clear k0 k1 k2 kl
    clear hb
    obtain ⟨k0,k1,k2,kl⟩:=(rowCells RC.out B_wa.out).cells3
    go_wp2_with fail
    go_ret
    exact ⟨ret_bool (by first | exact (HV.out ()).symm | (rw [HV.out ()];first | rfl | (simp;done) | (rw [Bool.eq_iff_iff];simp;omega))),B_w.out⟩
   ·obtain ⟨j,ad',rfl,hj,e,hab2,hcy⟩:=isW_data HG.out h2 hy
    cases e
    have HV:Hid (∀ _:Unit,oppW n gs (n+(i:Int)) (n+(j:Int))=decide (argW n gs (n+(j:Int))=n+(i:Int))):=fun _=>by rw [HOE.out (),decide_eq_false hz];rw [Bool.and_false,Bool.false_or,Bool.true_and]
    have HCY0:=hiD hcy
    generalize argW n gs (n+(j:Int))=zy at HCY0 HV
    have HCY:=HCY0
    have hi2:(j:Int) < (gn:Int):=by omega
    have hw4:n+(j:Int) - n=(j:Int):=by omega
    have hw2:IntKind.i64.wrap (n+(j:Int) - n)=(j:Int):=by
     rw [show n+(j:Int) - n=(j:Int) by omega]
     exact IntWalk.i64_in _ (by omega)
    clear h1 h2 HOE hzx hz hcy HCY0 hab hab2
    go_enter Try.func108,Try.ntmps108
    go_upto_region 1 with fail
    obtain ⟨wa,hW9,RC,hgr9⟩:=laid1 w [.int .i64 n,.slice (some ad) gn gc,.slice OA on oc] 37
    rewrite [hW9]
    clear hW9
    have B_w:=hiD hgr9
    clear hgr9
    obtain ⟨k0,k1,k2,kl⟩:=RC.out.cells3
    go_wp2_with fail
    have HC:=rIs_any n gs (some ad) OA gn gc on oc (n+(i:Int)) 2 wa ((HG.out.up B_w.out)) hn hg hx hx0
    rw [HI1.out ()] at HC
    refine HC.mono ?_
    clear HC
    rintro e w1 ⟨rfl,hb⟩
    have B_w:=hiD (below_on2 B_w.out hb)
    have B_wa:=hiD hb
    clear k0 k1 k2 kl
    clear hb
    obtain ⟨k0,k1,k2,kl⟩:=(rowCells RC.out B_wa.out).cells3
    have cx:=HCX.out _ B_w.out
    have hax:=HAX.out _ B_w.out
    go_wp2_with fail
    clear cx hax
    have HC:=rIs_any n gs (some ad) OA gn gc on oc (n+(j:Int)) 2 w1 ((HG.out.up B_w.out)) hn hg hy hy0
    rw [HI2.out ()] at HC
    refine HC.mono ?_
    clear HC
    rintro e w2 ⟨rfl,hb⟩
    have B_w:=hiD (below_on2 B_w.out hb)
    have B_wa:=hiD (below_on2 B_wa.out hb)
    clear k0 k1 k2 kl
    clear hb
    obtain ⟨k0,k1,k2,kl⟩:=(rowCells RC.out B_wa.out).cells3
    have cy:=HCY.out _ B_w.out
    have hay:=HAX.out _ B_w.out
    go_wp2_with fail
    go_ret
    exact ⟨ret_bool (by first | exact (HV.out ()).symm | (rw [HV.out ()];first | rfl | (simp;done) | (rw [Bool.eq_iff_iff];simp;omega))),B_w.out⟩
end Go.Proofs.Ytiemhbogbaamlaa
/-
 A part.
-/
namespace Go.Proofs.Ytiemhbogbaamlaa
open Go.RowKit
set_option maxRecDepth 100000 in
set_option maxHeartbeats 4000000 in
theorem rRepl_any (g:Gt) (to:List Int) (TA:Option Addr) (tn tc:Nat) (w:World) (hT:Rd w w.heap.size 1 TA tn (ints to)) (ht:tn≤30000)
 (ha:1≤operandsO g.op→0≤g.a∧g.a < (tn:Int)) (hb:operandsO g.op=2→0≤g.b∧g.b < (tn:Int)):
 Calls Try.prog 97 #[.agg #[.int .i64 g.op,.int .i64 g.a,.int .i64 g.b],.slice TA tn tc] w fun e w'=>e=.returned (.agg #[.int .i64 (moveG to g).op,.int .i64 (moveG to g).a,.int .i64 (moveG to g).b])∧Below w.heap.size w w':=by
 have HTL:Hid (∀ _:Unit,to.length=tn):=fun _=>by have:=hT.1;simp at this;omega
 have HT:=hiD hT
 clear hT
 have hk3:operandsO g.op=0∨operandsO g.op=1∨operandsO g.op=2:=by have:=operandsO_bd g.op;omega
 rcases hk3 with hk | hk | hk
 ·have HV:Hid (∀ _:Unit,moveG to g=g):=fun _=>by unfold moveG;rw [if_neg (by omega),if_neg (by omega)]
  have HOP:=hiU hk
  clear ha hb hk
  go_enter Try.func97,Try.ntmps97
  go_upto_region 1 with fail
  obtain ⟨wa,hW9,RB,RZ,hgr9⟩:=laid2 w [.int .i64 g.op,.int .i64 g.a,.int .i64 g.b] 77 [.int .i64 0,.int .i64 0,.int .i64 0] 77
  rewrite [hW9]
  clear hW9
  have B_w:=hiD hgr9
  clear hgr9
  have BW:=hiD B_w
  clear B_w
  obtain ⟨q0,q1,q2,ql⟩:=RB.out.cells3
  have qf0:=RB.out.frozen 1
  have qf2:=RB.out.frozen 2
  go_wp2_with fail
  have HC:=rOps_any g.op wa
  rw [HOP.out ()] at HC
  refine HC.mono ?_
  clear HC
  rintro e w1 ⟨rfl,rfl⟩
  go_wp2_with fail
  have HC:=rOps_any g.op wa
  rw [HOP.out ()] at HC
  refine HC.mono ?_
  clear HC
  rintro e w1 ⟨rfl,rfl⟩
  obtain ⟨q0,q1,q2,ql⟩:=RB.out.cells3
  obtain ⟨z0,z1,z2,zl⟩:=RZ.out.cells3
  obtain ⟨zf0,zf1,zf2⟩:=RZ.out.froz3
  go_wp2
  have Z9:=RZ.out.set3 (.int .i64 g.op) (.int .i64 g.a) (.int .i64 g.b)
  have B9:=bSet3 BW.out (w.heap.size+1) (by show _≤(w.heap.size+1);omega) (.int .i64 g.op) (.int .i64 g.a) (.int .i64 g.b)
  obtain ⟨d0,d1,d2,-⟩:=Z9.cells3
  clear Z9
  refine bodyPost_ret (v:=.agg #[.int .i64 g.op,.int .i64 g.a,.int .i64 g.b]) (by simp [results,Try.results97,go_sem,d0,d1,d2]) rfl ?_
  exact ⟨by rw [HV.out ()],B9⟩
 ·obtain ⟨a0,a1⟩:=ha (by omega)
  obtain ⟨ja,hja⟩:∃ j:Nat,g.a=(j:Int):=⟨g.a.toNat,by omega⟩
  have hj:ja < tn:=by omega
  obtain ⟨ad,rfl,hab,hcs⟩:=HT.out.int hj
  obtain ⟨va,hva⟩:∃ v,to.getD ja 0=v:=⟨_,rfl⟩
  rw [hva] at hcs
  have HCA:Hid (∀ W9,Below w.heap.size w W9→W9.cell? (ad.add ja)=some (.int .i64 va)):=fun W9 h9=>(h9.cell (by rw [add_block];exact hab)).trans hcs
  have HV:Hid (∀ _:Unit,moveG to g=⟨g.op,va,g.b⟩):=fun _=>by unfold moveG toAt;rw [if_pos (by omega),if_neg (by omega),hja,Int.toNat_natCast,hva]
  have HOP:=hiU hk
  have hi1:(ja:Int) < (tn:Int):=by omega
  rw [hja]
  clear ha hb hk a0 a1 hja hva hcs
  go_enter Try.func97,Try.ntmps97
  go_upto_region 1 with fail
  obtain ⟨wa,hW9,RB,RZ,hgr9⟩:=laid2 w [.int .i64 g.op,.int .i64 (ja:Int),.int .i64 g.b] 77 [.int .i64 0,.int .i64 0,.int .i64 0] 77
  rewrite [hW9]
  clear hW9
  have B_w:=hiD hgr9
  clear hgr9
  have BW:=hiD B_w
  clear B_w
  obtain ⟨q0,q1,q2,ql⟩:=RB.out.cells3
  have qf0:=RB.out.frozen 1
  have qf2:=RB.out.frozen 2
  go_wp2_with fail
  have HC:=rOps_any g.op wa
  rw [HOP.out ()] at HC
  refine HC.mono ?_
  clear HC
  rintro e w1 ⟨rfl,rfl⟩
  have cx:=HCA.out _ BW.out
  go_upto_region 3 with fail
  have RB9:Hid (Row (World.setCell wa ⟨w.heap.size,1,none⟩ (.int .i64 va)) w.heap.size 77 [.int .i64 g.op,.int .i64 va,.int .i64 g.b]):=RB.out.set 1 _
  have RZ9:Hid (Row (World.setCell wa ⟨w.heap.size,1,none⟩ (.int .i64 va)) (w.heap.size+1) 77 [.int .i64 0,.int .i64 0,.int .i64 0]):=RZ.out.far (p:=⟨w.heap.size,1,none⟩) (by show (w.heap.size+1)≠w.heap.size;omega) _
  have BW9:Hid (Below w.heap.size w (World.setCell wa ⟨w.heap.size,1,none⟩ (.int .i64 va))):=BW.out.setCell (p:=⟨w.heap.size,1,none⟩) (Nat.le_refl _) _
  clear RB RZ BW q0 q1 q2 ql qf0 qf2
  revert RB9 RZ9 BW9
  generalize (World.setCell wa ⟨w.heap.size,1,none⟩ (.int .i64 va))=wb
  intro RB RZ BW
  obtain ⟨q0,q1,q2,ql⟩:=RB.out.cells3
  go_wp2_with fail
  have HC:=rOps_any g.op wb
  rw [HOP.out ()] at HC
  refine HC.mono ?_
  clear HC
  rintro e w1 ⟨rfl,rfl⟩
  clear q0 q1 q2 ql cx
  obtain ⟨q0,q1,q2,ql⟩:=RB.out.cells3
  obtain ⟨z0,z1,z2,zl⟩:=RZ.out.cells3
  obtain ⟨zf0,zf1,zf2⟩:=RZ.out.froz3
  go_wp2
  have Z9:=RZ.out.set3 (.int .i64 g.op) (.int .i64 va) (.int .i64 g.b)
  have B9:=bSet3 BW.out (w.heap.size+1) (by show _≤(w.heap.size+1);omega) (.int .i64 g.op) (.int .i64 va) (.int .i64 g.b)
  obtain ⟨d0,d1,d2,-⟩:=Z9.cells3
  clear Z9
  refine bodyPost_ret (v:=.agg #[.int .i64 g.op,.int .i64 va,.int .i64 g.b]) (by simp [results,Try.results97,go_sem,d0,d1,d2]) rfl ?_
  exact ⟨by rw [HV.out ()],B9⟩
 ·obtain ⟨a0,a1⟩:=ha (by omega)
  obtain ⟨b0,b1⟩:=hb hk
  obtain ⟨ja,hja⟩:∃ j:Nat,g.a=(j:Int):=⟨g.a.toNat,by omega⟩
  obtain ⟨jb,hjb⟩:∃ j:Nat,g.b=(j:Int):=⟨g.b.toNat,by omega⟩
  have hj:ja < tn:=by omega
  have hj2:jb < tn:=by omega
  obtain ⟨ad,rfl,hab,hcs⟩:=HT.out.int hj
  obtain ⟨ad',e',hab',hcs2⟩:=HT.out.int hj2
  cases e'
  obtain ⟨va,hva⟩:∃ v,to.getD ja 0=v:=⟨_,rfl⟩
  obtain ⟨vb,hvb⟩:∃ v,to.getD jb 0=v:=⟨_,rfl⟩
  rw [hva] at hcs
  rw [hvb] at hcs2
  have HCA:Hid (∀ W9,Below w.heap.size w W9→W9.cell? (ad.add ja)=some (.int .i64 va)):=fun W9 h9=>(h9.cell (by rw [add_block];exact hab)).trans hcs
  have HCB:Hid (∀ W9,Below w.heap.size w W9→W9.cell? (ad.add jb)=some (.int .i64 vb)):=fun W9 h9=>(h9.cell (by rw [add_block];exact hab)).trans hcs2
  have HV:Hid (∀ _:Unit,moveG to g=⟨g.op,va,vb⟩):=fun _=>by unfold moveG toAt;rw [if_pos (by omega),if_pos hk,hja,hjb,Int.toNat_natCast,Int.toNat_natCast,hva,hvb]
  have HOP:=hiU hk
  have hi1:(ja:Int) < (tn:Int):=by omega
  have hi2:(jb:Int) < (tn:Int):=by omega
  rw [hja,hjb]
  clear ha hb hk a0 a1 b0 b1 hja hva hjb hvb hcs hcs2
  go_enter Try.func97,Try.ntmps97
  go_upto_region 1 with fail
  obtain ⟨wa,hW9,RB,RZ,hgr9⟩:=laid2 w [.int .i64 g.op,.int .i64 (ja:Int),.int .i64 (jb:Int)] 77 [.int .i64 0,.int .i64 0,.int .i64 0] 77
  rewrite [hW9]
  clear hW9
  have B_w:=hiD hgr9
  clear hgr9
  have BW:=hiD B_w
  clear B_w
  obtain ⟨q0,q1,q2,ql⟩:=RB.out.cells3
  have qf0:=RB.out.frozen 1
  have qf2:=RB.out.frozen 2
  go_wp2_with fail
  have HC:=rOps_any g.op wa
  rw [HOP.out ()] at HC
  refine HC.mono ?_
  clear HC
  rintro e w1 ⟨rfl,rfl⟩
  have cx:=HCA.out _ BW.out
  go_upto_region 3 with fail
  have RB9:Hid (Row (World.setCell wa ⟨w.heap.size,1,none⟩ (.int .i64 va)) w.heap.size 77 [.int .i64 g.op,.int .i64 va,.int .i64 (jb:Int)]):=RB.out.set 1 _
  have RZ9:Hid (Row (World.setCell wa ⟨w.heap.size,1,none⟩ (.int .i64 va)) (w.heap.size+1) 77 [.int .i64 0,.int .i64 0,.int .i64 0]):=RZ.out.far (p:=⟨w.heap.size,1,none⟩) (by show (w.heap.size+1)≠w.heap.size;omega) _
  have BW9:Hid (Below w.heap.size w (World.setCell wa ⟨w.heap.size,1,none⟩ (.int .i64 va))):=BW.out.setCell (p:=⟨w.heap.size,1,none⟩) (Nat.le_refl _) _
  clear RB RZ BW q0 q1 q2 ql qf0 qf2
  revert RB9 RZ9 BW9
  generalize (World.setCell wa ⟨w.heap.size,1,none⟩ (.int .i64 va))=wb
  intro RB RZ BW
  obtain ⟨q0,q1,q2,ql⟩:=RB.out.cells3
  have qf0:=RB.out.frozen 1
  have qf2:=RB.out.frozen 2
  go_wp2_with fail
  have HC:=rOps_any g.op wb
  rw [HOP.out ()] at HC
  refine HC.mono ?_
  clear HC
  rintro e w1 ⟨rfl,rfl⟩
  clear cx
  have cx:=HCB.out _ BW.out
  go_upto_region 5 with fail
  have RB9:Hid (Row (World.setCell wb ⟨w.heap.size,2,none⟩ (.int .i64 vb)) w.heap.size 77 [.int .i64 g.op,.int .i64 va,.int .i64 vb]):=RB.out.set 2 _
  have RZ9:Hid (Row (World.setCell wb ⟨w.heap.size,2,none⟩ (.int .i64 vb)) (w.heap.size+1) 77 [.int .i64 0,.int .i64 0,.int .i64 0]):=RZ.out.far (p:=⟨w.heap.size,2,none⟩) (by show (w.heap.size+1)≠w.heap.size;omega) _
  have BW9:Hid (Below w.heap.size w (World.setCell wb ⟨w.heap.size,2,none⟩ (.int .i64 vb))):=BW.out.setCell (p:=⟨w.heap.size,2,none⟩) (Nat.le_refl _) _
  clear RB RZ BW q0 q1 q2 ql qf0 qf2
  revert RB9 RZ9 BW9
  generalize (World.setCell wb ⟨w.heap.size,2,none⟩ (.int .i64 vb))=wc
  intro RB RZ BW
  clear cx
  obtain ⟨q0,q1,q2,ql⟩:=RB.out.cells3
  obtain ⟨z0,z1,z2,zl⟩:=RZ.out.cells3
  obtain ⟨zf0,zf1,zf2⟩:=RZ.out.froz3
  go_wp2
  have Z9:=RZ.out.set3 (.int .i64 g.op) (.int .i64 va) (.int .i64 vb)
  have B9:=bSet3 BW.out (w.heap.size+1) (by show _≤(w.heap.size+1);omega) (.int .i64 g.op) (.int .i64 va) (.int .i64 vb)
  obtain ⟨d0,d1,d2,-⟩:=Z9.cells3
  clear Z9
  refine bodyPost_ret (v:=.agg #[.int .i64 g.op,.int .i64 va,.int .i64 vb]) (by simp [results,Try.results97,go_sem,d0,d1,d2]) rfl ?_
  exact ⟨by rw [HV.out ()],B9⟩
set_option maxRecDepth 100000 in
set_option maxHeartbeats 4000000 in
theorem rOuts_any (l to:List Int) (LA TA:Option Addr) (ln lc tn tc:Nat) (w:World) (hL:Rd w w.heap.size 1 LA ln (ints l)) (hT:Rd w w.heap.size 1 TA tn (ints to)) (hl:ln≤20000) (ht:tn≤30000)
 (hout:∀ k,k < l.length→0≤l.getD k 0∧l.getD k 0 < (tn:Int)):
 Calls Try.prog 98 #[.slice LA ln lc,.slice TA tn tc] w fun e w'=>∃ OB oc,e=.returned (.slice OB ln oc)∧Rd w' w'.heap.size 1 OB ln (ints (l.map (toAt to)))∧CFrom OB ln w.heap.size∧Below w.heap.size w w':=by
 have HLL:Hid (∀ _:Unit,l.length=ln):=fun _=>by have:=hL.1;simp at this;omega
 have HL:=hiD hL
 have HT:=hiD hT
 have HOUT:Hid (∀ k,k < ln→0≤l.getD k 0∧l.getD k 0 < (tn:Int)):=fun k hk=>hout k (by rw [HLL.out ()];exact hk)
 clear hL hT hout
 go_enter Try.func98,Try.ntmps98
 go_wp2_with fail
 go_loopg [5,6] ln (fun gg s5 s6 wr=>∃ k:Nat,k≤ln∧ln - k≤gg∧s6=.int .i64 k∧Aside (Below w.heap.size w wr)∧Aside (World.ownsRow wr w.heap.size 3 1 (s5) (k) (ints ((l.take (k)).map (toAt to)))))
 case atStart=>exact ⟨0,Nat.zero_le _,by omega,rfl,Below.refl _ _,World.ownsRow_nil _ _ _ _⟩
 case round=>
  obtain ⟨k,hk,hgg,rfl,BW,OW⟩:=hrel
  obtain ⟨OB,oc2,rfl,_⟩:=Rd.own OW.out
  have hsz:=BW.out.size
  by_cases hlt:k < ln
  ·have hlz:(k:Int) < (ln:Int):=by omega
   obtain ⟨oad,rfl,hob,ho0⟩:=(HL.out.up BW.out).int hlt
   obtain ⟨o0,o1⟩:=HOUT.out k hlt
   obtain ⟨j,hj⟩:∃ j:Nat,l.getD k 0=(j:Int):=⟨(l.getD k 0).toNat,by omega⟩
   rw [hj] at ho0
   have hjt:j < tn:=by omega
   obtain ⟨tad,rfl,htb,hcell⟩:=(HT.out.up BW.out).int hjt
   have HVS:Hid (∀ _:Unit,ints ((l.take (k+1)).map (toAt to))=ints ((l.take k).map (toAt to)) ++ [.int .i64 (to.getD j 0)]):=fun _=>by
    rw [outs_snoc to l k (by rw [HLL.out ()];exact hlt),hj];rfl
   generalize to.getD j 0=z at hcell HVS
   have hi1:(j:Int) < (tn:Int):=by omega
   clear hj o0 o1
   go_wp2_with (at_builtin;refine wpList_app rfl (.tmp 13) (.tmp 21) 35 rfl w.heap.size 3 (.int .i64 0) 1 8 Try.underlying35 int_infoZ rfl (by decide) (by decide) (.slice OB k oc2) k (ints ((l.take k).map (toAt to))) rfl ?own (wr.heap.size+1) (some ⟨wr.heap.size,0,none⟩) 1 1 [.int .i64 z] rfl ?rd ?one ?hb ?hbase ?_)
   case own=>exact OW.out.alloc _
   case rd=>exact Rd.lit wr #[.int .i64 z] 3 (sz:=1) (m:=1) rfl
   case one=>first | (intro u hu;simp at hu;subst hu;rfl) | rfl
   case hb=>omega
   case hbase=>first | (simp;omega) | omega
   intro v' w5 hown' hgrow' hat'
   have OW5:Hid (World.ownsRow w5 w.heap.size 3 1 (v') (k+1) (ints ((l.take (k+1)).map (toAt to)))):=(by show World.ownsRow _ _ _ _ _ _ _;rw [HVS.out ()];first | exact hown' | (rw [List.map_take];exact hown'))
   have BW5:Hid (Below w.heap.size w w5):=(BW.out.alloc BW.out.size _).grown hgrow' (by have:=BW.out.size;simp;omega) (fun q hq=>(OW.out.lt q hq).1)
   clear hown' hgrow' hat' OW BW ho0 hcell hob htb
   go_wp2_with fail
   go_roundg (ln - (k+1))
   case measure=>omega
   case rel=>exact ⟨k+1,by omega,by omega,by go_num,BW5.out,OW5.out⟩
  ·have hlz:¬ (k:Int) < (ln:Int):=by omega
   obtain rfl:ln=k:=by omega
   go_wp2_with fail
   go_ret
   have e1:l.map (toAt to)=(l.take ln).map (toAt to):=by rw [List.take_of_length_le (by rw [HLL.out ()];exact Nat.le_refl _)]
   exact ⟨OB,⟨oc2,rfl⟩,by rw [e1];exact Rd.of_own OW.out,own_from OW.out,BW.out⟩
def idW (m:Nat):List Int:=(List.range m).map Int.ofNat
set_option maxRecDepth 100000 in
set_option maxHeartbeats 4000000 in
theorem rCop_any (n:Int) (GA OA:Option Addr) (gn gc on oc:Nat) (w:World) (hn:0≤n∧n≤1000) (hg:gn≤20000) (M:Nat) (hM:n+(gn:Int)=(M:Int)):
 Calls Try.prog 96 #[.agg #[.int .i64 n,.slice GA gn gc,.slice OA on oc]] w fun e w'=>∃ TA tc,e=.returned (.tuple #[.agg #[.int .i64 n,.slice none 0 0,.slice none 0 0],.slice TA M tc])∧w'.ownsRow w.heap.size 3 1 (.slice TA M tc) M (ints (idW M))∧Below w.heap.size w w':=by
 have HM:=hiU hM
 have hMb:M≤21000:=by omega
 clear hM
 go_enter Try.func96,Try.ntmps96
 go_upto_region 1 with fail
 obtain ⟨wa,hW9,RC,RR,hgr9⟩:=laid2 w [.int .i64 n,.slice GA gn gc,.slice OA on oc] 37 [.int .i64 0,.slice none 0 0,.slice none 0 0] 37
 rewrite [hW9]
 clear hW9
 have B_w:=hiD hgr9
 clear hgr9
 obtain ⟨k0,k1,k2,kl⟩:=RC.out.cells3
 go_upto_region 2 with fail
 clear k0 k1 k2 kl
 have hwa:w.heap.size+1 < wa.heap.size:=RR.out.lt
 have RC1:Hid (Row (World.alloc wa (.cells #[.int .i64 n,.slice none 0 0,.slice none 0 0] 37)) w.heap.size 37 [.int .i64 n,.slice GA gn gc,.slice OA on oc]):=RC.out.alloc _
 have RR1:Hid (Row (World.alloc wa (.cells #[.int .i64 n,.slice none 0 0,.slice none 0 0] 37)) (w.heap.size+1) 37 [.int .i64 0,.slice none 0 0,.slice none 0 0]):=RR.out.alloc _
 have RO1:Hid (Row (World.alloc wa (.cells #[.int .i64 n,.slice none 0 0,.slice none 0 0] 37)) wa.heap.size 37 [.int .i64 n,.slice none 0 0,.slice none 0 0]):=Row.new wa 37 [.int .i64 n,.slice none 0 0,.slice none 0 0]
 have BW1:Hid (Below w.heap.size w (World.alloc wa (.cells #[.int .i64 n,.slice none 0 0,.slice none 0 0] 37))):=B_w.out.alloc B_w.out.size _
 clear RC RR B_w
 revert RC1 RR1 RO1 BW1
 generalize (World.alloc wa (.cells #[.int .i64 n,.slice none 0 0,.slice none 0 0] 37))=w1
 intro RC1 RR1 RO1 BW1
 go_wp2_with fail
 go_loopg [5,6] M (fun gg s5 s6 wr=>∃ k:Nat,k≤M∧M - k≤gg∧s6=.int .i64 k∧Aside (Below w.heap.size w wr)∧Aside (Row wr w.heap.size 37 [.int .i64 n,.slice GA gn gc,.slice OA on oc])∧Aside (Row wr (w.heap.size+1) 37 [.int .i64 0,.slice none 0 0,.slice none 0 0])∧Aside (Row wr wa.heap.size 37 [.int .i64 n,.slice none 0 0,.slice none 0 0])∧Aside (World.ownsRow wr w.heap.size 3 1 (s5) (k) (ints (idW (k)))))
 case atStart=>exact ⟨0,Nat.zero_le _,by omega,rfl,BW1.out,RC1.out,RR1.out,RO1.out,World.ownsRow_nil _ _ _ _⟩
 case round=>
  clear RC1 RR1 RO1 BW1
  obtain ⟨k,hk,hgg,rfl,BW,RC,RR,RO,OW⟩:=hrel
  obtain ⟨TA,tc,rfl,_⟩:=Rd.own OW.out
  have hsz:=BW.out.size
  have hw1:IntKind.i64.wrap (n+(gn:Int))=(M:Int):=by rw [HM.out ()];exact IntWalk.i64_in _ (by omega)
  have hw2:n+(gn:Int)=(M:Int):=HM.out ()
  by_cases hlt:k < M
  ·have hlz:(k:Int) < (M:Int):=by omega
   obtain ⟨k0,k1,k2,kl⟩:=RC.out.cells3
   go_wp2_with (at_builtin;refine wpList_app rfl (.tmp 20) (.tmp 22) 35 rfl w.heap.size 3 (.int .i64 0) 1 8 Try.underlying35 int_infoZ rfl (by decide) (by decide) (.slice TA k tc) k (ints (idW k)) rfl ?own (wr.heap.size+1) (some ⟨wr.heap.size,0,none⟩) 1 1 [.int .i64 (k:Int)] rfl ?rd ?one ?hb ?hbase ?_)
   case own=>exact OW.out.alloc _
   case rd=>exact Rd.lit wr #[.int .i64 (k:Int)] 3 (sz:=1) (m:=1) rfl
   case one=>first | (intro u hu;simp at hu;subst hu;rfl) | rfl
   case hb=>omega
   case hbase=>first | (simp;omega) | omega
   intro v' w5 hown' hgrow' hat'
   have OW5:Hid (World.ownsRow w5 w.heap.size 3 1 (v') (k+1) (ints (idW (k+1)))):=(by show World.ownsRow _ _ _ _ _ _ _;rw [show ints (idW (k+1))=_ from range_snoc k];exact hown')
   have BW5:Hid (Below w.heap.size w w5):=(BW.out.alloc BW.out.size _).grown hgrow' (by have:=BW.out.size;simp;omega) (fun q hq=>(OW.out.lt q hq).1)
   have RC5:Hid (Row w5 w.heap.size 37 [.int .i64 n,.slice GA gn gc,.slice OA on oc]):=(RC.out.alloc _).grown hgrow' (fun e=>own_ne_row OW.out RC.out (by decide) e.symm)
   have RR5:Hid (Row w5 (w.heap.size+1) 37 [.int .i64 0,.slice none 0 0,.slice none 0 0]):=(RR.out.alloc _).grown hgrow' (fun e=>own_ne_row OW.out RR.out (by decide) e.symm)
   have RO5:Hid (Row w5 wa.heap.size 37 [.int .i64 n,.slice none 0 0,.slice none 0 0]):=(RO.out.alloc _).grown hgrow' (fun e=>own_ne_row OW.out RO.out (by decide) e.symm)
   clear hown' hgrow' hat' OW BW RC RR RO k0 k1 k2 kl hw2
   go_wp2_with fail
   go_roundg (M - (k+1))
   case measure=>omega
   case rel=>exact ⟨k+1,by omega,by omega,by go_num,BW5.out,RC5.out,RR5.out,RO5.out,OW5.out⟩
  ·have hlz:¬ (k:Int) < (M:Int):=by omega
   obtain rfl:M=k:=by omega
   obtain ⟨k0,k1,k2,kl⟩:=RC.out.cells3
   obtain ⟨q0,q1,q2,ql⟩:=RO.out.cells3
   obtain ⟨z0,z1,z2,zl⟩:=RR.out.cells3
   obtain ⟨zf0,zf1,zf2⟩:=RR.out.froz3
   go_wp2
   have Z9:=RR.out.set3 (.int .i64 n) (.slice none 0 0) (.slice none 0 0)
   have B9:=bSet3 BW.out (w.heap.size+1) (by show _≤(w.heap.size+1);omega) (.int .i64 n) (.slice none 0 0) (.slice none 0 0)
   have O9:=(own_set (p:=⟨(w.heap.size+1),2,none⟩) (own_set (p:=⟨(w.heap.size+1),1,none⟩) (own_set (p:=⟨(w.heap.size+1),0,none⟩) OW.out RR.out (by decide) (.int .i64 n)) (Row.set RR.out 0 (.int .i64 n)) (by decide) (.slice none 0 0)) (Row.set (Row.set RR.out 0 (.int .i64 n)) 1 (.slice none 0 0)) (by decide) (.slice none 0 0))
   obtain ⟨d0,d1,d2,-⟩:=Z9.cells3
   clear Z9
   refine bodyPost_ret (v:=.tuple #[.agg #[.int .i64 n,.slice none 0 0,.slice none 0 0],.slice TA M tc]) (by simp [results,Try.results96,go_sem,d0,d1,d2]) rfl ?_
   exact ⟨TA,tc,rfl,O9,B9⟩
end Go.Proofs.Ytiemhbogbaamlaa
/-
 A part.
-/
namespace Go.Proofs.Ytiemhbogbaamlaa
open Go.RowKit
def aliasL (s:Wk) (n:Int) (k m:Nat):List Int:=s.to ++ (List.range m).map (fun i:Nat=>n+(k:Int)+(i:Int))
section
variable {s:Wk} {n:Int} {k m:Nat}
theorem alias_lt (hs:s.to.length=n.toNat+k) {w:Nat} (hw:w < n.toNat+k):(aliasL s n k m).getD w 0=s.to.getD w 0:=by
 unfold aliasL
 rw [List.getD_eq_getElem?_getD,List.getElem?_append_left (by omega),← List.getD_eq_getElem?_getD]
theorem alias_move (hn:0≤n) (hs:s.to.length=n.toNat+k) {g:Gt} (hg:gateOk (n+(k:Int)) g=true):moveG (aliasL s n k m) g=moveG s.to g:=
 moveG_congr (L:=n.toNat+k) (fun w hw=>alias_lt hs hw) hg (by omega)
theorem alias_start (n:Int) (hn:0≤n) (m:Nat):aliasL (startW n) n 0 m=idW (n.toNat+m):=by
 unfold aliasL idW startW
 rw [List.range_add,List.map_append,List.map_map]
 congr 1
 apply List.map_congr_left
 intro i _
 show n+((0:Nat):Int)+(i:Int)=((n.toNat+i:Nat):Int)
 omega
theorem alias_cons:aliasL s n k (m+1)=s.to ++ (n+(k:Int)) :: (List.range m).map (fun i:Nat=>n+((k+1:Nat):Int)+(i:Int)):=by
 unfold aliasL
 rw [List.range_succ_eq_map,List.map_cons,List.map_map]
 congr 2
 ·show n+(k:Int)+((0:Nat):Int)=_;omega
 ·apply List.map_congr_left
  intro i _
  show n+(k:Int)+((i+1:Nat):Int)=_
  omega
theorem alias_next (hs:s.to.length=n.toNat+k) (z:Int):(s.to ++ [z]) ++ (List.range m).map (fun i:Nat=>n+((k+1:Nat):Int)+(i:Int))=(aliasL s n k (m+1)).set (n.toNat+k) z:=by
 rw [alias_cons,List.set_append_right _ _ (by omega)]
 have e:n.toNat+k - s.to.length=0:=by omega
 rw [e,List.set_cons_zero,List.append_assoc];rfl
theorem alias_same (hs:s.to.length=n.toNat+k):(s.to ++ [n+(k:Int)]) ++ (List.range m).map (fun i:Nat=>n+((k+1:Nat):Int)+(i:Int))=aliasL s n k (m+1):=by
 rw [alias_cons,List.append_assoc];rfl
theorem alias_add (hs:s.to.length=n.toNat+k) (hg:s.gates.length=k) (p:Gt × Int):aliasL (addW n s p) n (k+1) m=if p.2 < 0 then aliasL s n k (m+1) else (aliasL s n k (m+1)).set (n.toNat+k) p.2:=by
 show (s.to ++ [if p.2 < 0 then n+(s.gates.length:Int) else p.2]) ++ (List.range m).map (fun i:Nat=>n+((k+1:Nat):Int)+(i:Int))=_
 rw [hg]
 split
 ·exact alias_same hs
 ·exact alias_next hs _
theorem alias_end:aliasL s n k 0=s.to:=by simp [aliasL]
end
theorem ints_setZ (l:List Int) (i:Nat) (z:Int):(ints l).set i (.int .i64 z)=ints (l.set i z):=by simp [ints,List.map_set]
def OSt (W:World) (B b:Nat) (n:Int) (gs:List Gt) (ov:Value):Prop:=
 ∃ gv:Value,Row W b 37 [.int .i64 n,gv,ov]∧W.ownsRow B 77 3 gv gs.length (gatesCells gs)∧B≤b
abbrev ASt (W:World) (B:Nat) (TA:Option Addr) (tc M:Nat) (al:List Int):Prop:=W.ownsRow B 3 1 (.slice TA M tc) M (ints al)
section
variable {w w' w0:World} {B b tc M:Nat} {n:Int} {gs:List Gt} {ov:Value} {TA:Option Addr} {al:List Int}
theorem OSt.blk (h:OSt w B b n gs ov):b < w.heap.size∧B≤b:=by
 obtain ⟨gv,h1,_,h3⟩:=h
 exact ⟨h1.lt,h3⟩
theorem OSt.op (h:OSt w B b n gs ov):∃ GA gc,Row w b 37 [.int .i64 n,.slice GA gs.length gc,ov]∧w.ownsRow B 77 3 (.slice GA gs.length gc) gs.length (gatesCells gs):=by
 obtain ⟨gv,h1,h2,h3⟩:=h
 obtain ⟨GA,gc,rfl,_⟩:=Rd.own h2
 exact ⟨GA,gc,h1,h2⟩
theorem OSt.keep (h:OSt w B b n gs ov) (hb:∀ k,k < w.heap.size→w'.heap[k]?=w.heap[k]?):OSt w' B b n gs ov:=by
 obtain ⟨gv,h1,h2,h3⟩:=h
 refine ⟨gv,(hb b h1.lt).trans h1,⟨h2.1,h2.2.imp id (fun ⟨g,cap,cur,a,b',c,d⟩=>⟨g,cap,cur,a,b',(hb g (heap_lt c)).trans c,d⟩)⟩,h3⟩
theorem OSt.below (h:OSt w B b n gs ov) (hb:Below w.heap.size w w'):OSt w' B b n gs ov:=h.keep hb.block
theorem OSt.alloc (h:OSt w B b n gs ov) (o:Obj):OSt (w.alloc o) B b n gs ov:=h.keep (fun k hk=>Below.heap_alloc w o k hk)
theorem OSt.setOuts (h:OSt w B b n gs ov) (u:Value):OSt (w.setCell ⟨b,2,none⟩ u) B b n gs u:=by
 obtain ⟨gv,h1,h2,h3⟩:=h
 exact ⟨gv,h1.set 2 u,own_set (p:=⟨b,2,none⟩) h2 h1 (by decide) u,h3⟩
theorem OSt.push {gv v':Value} {gn:Nat} {g:Gt} (hr:Row w b 37 [.int .i64 n,gv,ov]) (ho:w.ownsRow B 77 3 gv gn (gatesCells gs)) (ha:ASt w B TA tc M al) (hB:B≤b) (hn:gs.length=gn) (hs:B≤w.heap.size) (hg:w.grownBy w' gv.ownBlock)
 (ho':w'.ownsRow B 77 3 v' (gn+1) (gatesCells gs ++ [.int .i64 g.op,.int .i64 g.a,.int .i64 g.b])) (hF:Below B w0 w):
 Row w' b 37 [.int .i64 n,gv,ov]∧OSt (w'.setCell ⟨b,1,none⟩ v') B b n (gs ++ [g]) ov∧ASt (w'.setCell ⟨b,1,none⟩ v') B TA tc M al∧Below B w0 (w'.setCell ⟨b,1,none⟩ v'):=by
 have r1:Row w' b 37 [.int .i64 n,gv,ov]:=hr.grown hg (fun e=>(own_ne_row ho hr (by decide)) e.symm)
 have a1:ASt w' B TA tc M al:=own_grown ha hg (fun k hk e=>(own_ne_own ha ho (by decide)).elim (fun h=>by rw [h] at hk;cases hk) (fun h=>h (hk.trans e.symm)))
 refine ⟨r1,⟨v',r1.set 1 v',?_,hB⟩,own_set (p:=⟨b,1,none⟩) a1 r1 (by decide) v',(hF.grown hg hs (fun k hk=>(ho.lt k hk).1)).setCell (p:=⟨b,1,none⟩) hB v'⟩
 have h1:=own_set (p:=⟨b,1,none⟩) ho' r1 (by decide) v'
 rw [gatesCells_append,gatesCells_one,List.length_append,List.length_singleton,hn]
 exact h1
theorem ASt.put (ha:ASt w B TA tc M al) {i:Nat} (hi:i < M):∃ g,TA=some ⟨g,0,none⟩∧g < w.heap.size∧B≤g∧w.cell? ⟨g,i,none⟩=some (.int .i64 (al.getD i 0))∧w.frozen? ⟨g,i,none⟩=false ∧
 ∀ z:Int,ASt (w.setCell ⟨g,i,none⟩ (.int .i64 z)) B TA tc M (al.set i z)∧(∀ b n gs ov,OSt w B b n gs ov→OSt (w.setCell ⟨g,i,none⟩ (.int .i64 z)) B b n gs ov)∧(∀ T cs r,T≠3→Row w r T cs→Row (w.setCell ⟨g,i,none⟩ (.int .i64 z)) r T cs)∧(∀ w0,Below B w0 w→Below B w0 (w.setCell ⟨g,i,none⟩ (.int .i64 z))):=by
 have hlen:al.length=M:=by have:=ha.1;simp at this;omega
 obtain ⟨g,cap,hv,hb,hlt⟩:=ha.form (by omega)
 have hA:TA=some ⟨g,0,none⟩:=by injection hv
 subst hA
 refine ⟨g,rfl,hlt,hb,(ha.cellAt i (by omega)).trans (ints_get al i (by omega)),ha.frozenAt i,fun z=>⟨?_,fun b n gs ov h=>?_,fun T cs r hT hr=>?_,fun w0 h0=>h0.setCell (p:=⟨g,i,none⟩) hb _⟩⟩
 ·have:=(ha.stored i (.int .i64 z)).1
  rw [ints_setZ] at this
  exact this
 ·obtain ⟨gv,h1,h2,h3⟩:=h
  refine ⟨gv,h1.far (p:=⟨g,i,none⟩) (fun e=>?_) _,own_far (p:=⟨g,i,none⟩) h2 (fun e=>?_) _,h3⟩
  ·exact own_ne_row ha h1 (by decide) (congrArg some e.symm)
  ·rcases own_ne_own h2 ha (by decide) with h4 | h4
   ·rw [h4] at e;cases e
   ·exact h4 e
 ·exact hr.far (p:=⟨g,i,none⟩) (fun e=>own_ne_row ha hr hT.symm (congrArg some e.symm)) _
theorem ASt.rd (ha:ASt w B TA tc M al):Rd w w.heap.size 1 TA M (ints al):=Rd.of_own ha
theorem ASt.below (ha:ASt w B TA tc M al) (hb:Below w.heap.size w w'):ASt w' B TA tc M al:=own_below ha hb (Nat.le_refl _)
end
end Go.Proofs.Ytiemhbogbaamlaa
