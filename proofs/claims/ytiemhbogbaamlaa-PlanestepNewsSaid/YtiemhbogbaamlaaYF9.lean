/-
 A part.
-/
import Derived.Test.YtiemhbogbaamlaaYF1
import Derived.Test.YtiemhbogbaamlaaYF8
import Derived.BigQuiet
import Derived.Deep.Cut
set_option linter.unusedSimpArgs false
set_option linter.unusedVariables false
namespace Go.Proofs.Ytiemhbogbaamlaa
open Go.RowKit
theorem isW_at (n:Int) (gs:List Gt) (k:Nat) (op:Int):isW n gs (n+(k:Int)) op=decide ((gs.getD k default).op=op):=by
 unfold isW
 rw [show n+(k:Int) - n=(k:Int) by omega,Int.toNat_natCast,decide_eq_true (by omega:n≤n+(k:Int)),Bool.true_and]
theorem argW_at (n:Int) (gs:List Gt) (k:Nat):argW n gs (n+(k:Int))=(gs.getD k default).a:=by
 unfold argW
 rw [show n+(k:Int) - n=(k:Int) by omega,Int.toNat_natCast]
theorem isW_low {n:Int} {gs:List Gt} {x op:Int} (h:¬ n≤x):isW n gs x op=false:=by unfold isW;rw [decide_eq_false h,Bool.false_and]
set_option maxRecDepth 100000 in
set_option maxHeartbeats 2000000 in
theorem is_any (B b:Nat) (n:Int) (s:Wk) (x op:Int) (w:World) (h:WkAt w B b n s) (hn:0≤n∧n≤1000) (hg:s.gates.length≤20000) (hx:x < n+s.gates.length) (hx0:-1000000≤x):
 Calls Try.prog 105 #[.pointer (some ⟨b,0,none⟩),.int .i64 x,.int .i64 op] w fun e w'=>e=.returned (.bool (isW n s.gates x op))∧Below w.heap.size w w':=by
 obtain ⟨GA,gc,TA,tc,hr,ho,ht1,hBb⟩:=h.op
 have RL:=hiD hr
 clear hr ht1 h
 obtain ⟨k0,k1,k2,kl⟩:=RL.out.cells3
 by_cases hle:n≤x
 ·obtain ⟨j,rfl⟩:∃ j:Nat,x=n+(j:Int):=⟨(x - n).toNat,by omega⟩
  have hj:j < s.gates.length:=by omega
  obtain ⟨ad,rfl,hab,c0,_,_⟩:=(Rd.of_own ho).gate hj
  have HV:Hid (∀ _:Unit,isW n s.gates (n+(j:Int)) op=decide ((s.gates.getD j default).op=op)):=fun _=>isW_at _ _ _ _
  generalize (s.gates.getD j default).op=z at c0 HV
  generalize s.gates.length=gn at hj hg k1
  have hd:decide (n≤n+(j:Int))=true:=decide_eq_true hle
  have hi1:(j:Int) < (gn:Int):=by omega
  have hw1:IntKind.i64.wrap (n+(j:Int) - n)=(j:Int):=by
   rw [show n+(j:Int) - n=(j:Int) by omega]
   exact IntWalk.i64_in _ (by omega)
  clear hx hle ho
  go_enter Try.func105,Try.ntmps105
  go_wp2_with fail
  go_quiet (fail)
  go_wp2_with fail
  go_ret
  exact ⟨ret_bool (by rw [HV.out ()];first | rfl | (simp;done) | (rw [Bool.eq_iff_iff];simp;omega)),below_drewN (Below.refl _ _) _⟩
 ·have HV:Hid (∀ _:Unit,isW n s.gates x op=false):=fun _=>isW_low hle
  have hd:decide (n≤x)=false:=decide_eq_false hle
  clear hx ho
  go_enter Try.func105,Try.ntmps105
  go_wp2_with fail
  go_quiet (fail)
  go_wp2_with fail
  go_ret
  exact ⟨ret_bool (by rw [HV.out ()]),below_drewN (Below.refl _ _) _⟩
set_option maxRecDepth 100000 in
set_option maxHeartbeats 2000000 in
theorem neg_any (B b pb:Nat) (n:Int) (s:Wk) (x y:Int) (w:World) (h:WkAt w B b n s) (hP:Row w pb 110 [.pointer (some ⟨b,0,none⟩)]) (hn:0≤n∧n≤1000) (hg:s.gates.length≤20000) (hx:x < n+s.gates.length) (hx0:-1000000≤x):
 Calls Try.prog 113 #[.int .i64 x,.int .i64 y,.pointer (some ⟨pb,0,none⟩)] w fun e w'=>e=.returned (.bool (negW n s.gates x y))∧Below w.heap.size w w':=by
 obtain ⟨GA,gc,TA,tc,hr,ho,ht1,hBb⟩:=h.op
 have HW:=hiD h
 have RL:=hiD hr
 have RP:=hiD hP
 clear hr ht1 h hP
 obtain ⟨q,hq⟩:∃ q,isW n s.gates x 2=q:=⟨_,rfl⟩
 have HIS:=hiU hq
 cases q
 ·have HV:Hid (∀ _:Unit,negW n s.gates x y=false):=fun _=>by unfold negW;rw [hq,Bool.false_and]
  clear hq ho
  go_enter Try.func113,Try.ntmps113
  go_wp2_with fail
  have hu:undef=Value.tuple #[]:=rfl
  refine wp_region_L (fun w'=>Row w' (b) 115 [.int .i64 n,.slice GA s.gates.length gc,.slice TA s.to.length tc]∧Row w' (pb) 110 [.pointer (some ⟨b,0,none⟩)]) [] (by kernel_rfl) (by exact ⟨Row.drew RL.out,Row.drew RP.out⟩) (fun hHeld=>?_)
  have B_w:Hid (Below w.heap.size w (World.drew w)):=(Below.refl _ _).drew
  revert hHeld B_w
  generalize World.drew w=wq
  intro hHeld B_w
  refine lPureW 1 ?va1 rfl (by rfl) ?ya1 ?ra1
  case ya1=>intro w' hSw;clear hSw;go_simp;try (with_reducible rfl)
  go_simp
  refine lTakeW 0 ?va2 [] rfl (by rfl) ?ya2 hHeld ?ra2
  case ya2=>
   intro w' hSw
   obtain ⟨hS0,hS1⟩:=hSw
   have hT0:=hiD hS0
   clear hS0
   obtain ⟨z0_0,z0_1,z0_2,z0_l⟩:=hT0.out.cells3
   have hT1:=hiD hS1
   clear hS1
   obtain ⟨z1_0,z1_l⟩:=hT1.out.cells1
   go_simp
   try (with_reducible rfl)
  go_simp
  refine restL_one (i:=2) (by kernel_rfl) rfl (fun K hK=>?_)
  go_simp
  go_at_call 105
  have HC:=is_any B b n s x 2 wq ((HW.out.below B_w.out)) hn hg hx hx0
  rw [HIS.out ()] at HC
  refine HC.mono ?_
  clear HC
  rintro e w1 ⟨rfl,hb⟩
  have B_w:=hiD (below_on2 B_w.out hb)
  clear hb
  clear hHeld
  refine hK.out _ _ (fun _=>?keep) (fun hHeld=>?_)
  case keep=>exact ⟨(rowCells RL.out B_w.out),(rowCells RP.out B_w.out)⟩
  have hHeld:=hHeld rfl
  clear hK K
  try go_simp
  refine lPureW 3 ?va3 rfl (by rfl) ?ya3 ?ra3
  case ya3=>intro w' hSw;clear hSw;go_simp;try (with_reducible rfl)
  go_simp
  refine lPureU 8 rfl (by go_simp) ?_
  go_simp
  refine lPureU 17 rfl (by go_simp) ?_
  go_simp
  refine lTakeU 4 [] rfl (by go_simp) hHeld ?_
  go_simp
  refine lPureU 5 rfl (by go_simp) ?_
  go_simp
  refine lPureU 6 rfl (by go_simp) ?_
  go_simp
  refine lTakeU 7 [] rfl (by go_simp) hHeld ?_
  go_simp
  refine lTakeU 9 [] rfl (by go_simp) hHeld ?_
  go_simp
  refine lPureU 10 rfl (by go_simp) ?_
  go_simp
  refine lPureU 11 rfl (by go_simp) ?_
  go_simp
  refine lTakeU 12 [] rfl (by go_simp) hHeld ?_
  go_simp
  refine lPureU 13 rfl (by go_simp) ?_
  go_simp
  refine lTakeU 14 [] rfl (by go_simp) hHeld ?_
  go_simp
  refine lPureU 15 rfl (by go_simp) ?_
  go_simp
  refine lTakeU 16 [] rfl (by go_simp) hHeld ?_
  go_simp
  refine lPureU 18 rfl (by go_simp) ?_
  go_simp
  refine lPureW 19 ?va19 rfl (by rfl) ?ya19 ?ra19
  case ya19=>intro w' hSw;clear hSw;go_simp;try (with_reducible rfl)
  go_simp
  refine lPureW 20 ?va20 rfl (by rfl) ?ya20 ?ra20
  case ya20=>intro w' hSw;clear hSw;go_simp;try (with_reducible rfl)
  go_simp
  refine restL_done (by kernel_rfl) ?_ _
  clear hu
  go_wp2_with fail
  go_ret
  exact ⟨ret_bool (by rw [HV.out ()]),B_w.out⟩
 ·have hle:n≤x:=by
   unfold isW at hq
   rw [Bool.and_eq_true,decide_eq_true_iff] at hq
   exact hq.1
  obtain ⟨j,rfl⟩:∃ j:Nat,x=n+(j:Int):=⟨(x - n).toNat,by omega⟩
  have hj:j < s.gates.length:=by omega
  obtain ⟨ad,rfl,hab,_,c1,_⟩:=(Rd.of_own ho).gate hj
  have HV:Hid (∀ _:Unit,negW n s.gates (n+(j:Int)) y=decide ((s.gates.getD j default).a=y)):=fun _=>by unfold negW;rw [hq,Bool.true_and,argW_at]
  have HC1:Hid (∀ W9,Below w.heap.size w W9→W9.cell? ⟨(ad.add (j * 3)).block,(ad.add (j * 3)).off+1,none⟩=some (.int .i64 (s.gates.getD j default).a)):=fun W9 h9=>(h9.cell (by show (ad.add (j * 3)).block < _;rw [add_block];exact hab)).trans c1
  have hi1:(j:Int) < (s.gates.length:Int):=by omega
  have hw1:IntKind.i64.wrap (n+(j:Int) - n)=(j:Int):=by
   rw [show n+(j:Int) - n=(j:Int) by omega]
   exact IntWalk.i64_in _ (by omega)
  clear hq ho c1 hle
  generalize hz:(s.gates.getD j default).a=z at HC1 HV
  clear hz
  go_enter Try.func113,Try.ntmps113
  go_wp2_with fail
  refine wp_region_L (fun w'=>Row w' (b) 115 [.int .i64 n,.slice (some ad) s.gates.length gc,.slice TA s.to.length tc]∧Row w' (pb) 110 [.pointer (some ⟨b,0,none⟩)]∧w'.cell? ⟨(ad.add (j * 3)).block,(ad.add (j * 3)).off+1,none⟩=some (.int .i64 z)) [] (by kernel_rfl) (by exact ⟨Row.drew RL.out,Row.drew RP.out,HC1.out _ (by first | exact (Below.refl _ _) | exact (Below.refl _ _).drew)⟩) (fun hHeld=>?_)
  have B_w:Hid (Below w.heap.size w (World.drew w)):=(Below.refl _ _).drew
  revert hHeld B_w
  generalize World.drew w=wq
  intro hHeld B_w
  refine lPureW 1 ?vb1 rfl (by rfl) ?yb1 ?rb1
  case yb1=>intro w' hSw;clear hSw;go_simp;try (with_reducible rfl)
  go_simp
  refine lTakeW 0 ?vb2 [] rfl (by rfl) ?yb2 hHeld ?rb2
  case yb2=>
   intro w' hSw
   obtain ⟨hS0,hS1,hF0⟩:=hSw
   have hT0:=hiD hS0
   clear hS0
   obtain ⟨z0_0,z0_1,z0_2,z0_l⟩:=hT0.out.cells3
   have hT1:=hiD hS1
   clear hS1
   obtain ⟨z1_0,z1_l⟩:=hT1.out.cells1
   go_simp
   try (with_reducible rfl)
  go_simp
  refine restL_one (i:=2) (by kernel_rfl) rfl (fun K hK=>?_)
  go_simp
  go_at_call 105
  have HC:=is_any B b n s (n+(j:Int)) 2 wq ((HW.out.below B_w.out)) hn hg hx hx0
  rw [HIS.out ()] at HC
  refine HC.mono ?_
  clear HC
  rintro e w1 ⟨rfl,hb⟩
  have B_w:=hiD (below_on2 B_w.out hb)
  clear hb
  clear hHeld
  refine hK.out _ _ (fun _=>?keep) (fun hHeld=>?_)
  case keep=>exact ⟨(rowCells RL.out B_w.out),(rowCells RP.out B_w.out),HC1.out _ (by first | exact B_w.out | exact (Below.refl _ _).drew)⟩
  have hHeld:=hHeld rfl
  clear hK K
  try go_simp
  refine lPureW 3 ?vb3 rfl (by rfl) ?yb3 ?rb3
  case yb3=>intro w' hSw;clear hSw;go_simp;try (with_reducible rfl)
  go_simp
  refine lPureW 8 ?vb4 rfl (by first | rfl | (go_simp;done)) ?yb4 ?rb4
  case yb4=>intro w' hSw;clear hSw;go_simp;try (with_reducible rfl)
  go_simp
  refine lPureW 17 ?vb5 rfl (by first | rfl | (go_simp;done)) ?yb5 ?rb5
  case yb5=>intro w' hSw;clear hSw;go_simp;try (with_reducible rfl)
  go_simp
  refine lTakeW 4 ?vb6 [] rfl (by first | rfl | (go_simp;done)) ?yb6 hHeld ?rb6
  case yb6=>
   intro w' hSw
   obtain ⟨hS0,hS1,hF0⟩:=hSw
   have hT0:=hiD hS0
   clear hS0
   obtain ⟨z0_0,z0_1,z0_2,z0_l⟩:=hT0.out.cells3
   have hT1:=hiD hS1
   clear hS1
   obtain ⟨z1_0,z1_l⟩:=hT1.out.cells1
   go_simp
   try (with_reducible rfl)
  go_simp
  refine lPureW 5 ?vb7 rfl (by first | rfl | (go_simp;done)) ?yb7 ?rb7
  case yb7=>intro w' hSw;clear hSw;go_simp;try (with_reducible rfl)
  go_simp
  refine lPureW 6 ?vb8 rfl (by first | rfl | (go_simp;done)) ?yb8 ?rb8
  case yb8=>intro w' hSw;clear hSw;go_simp;try (with_reducible rfl)
  go_simp
  refine lTakeW 7 ?vb9 [] rfl (by first | rfl | (go_simp;done)) ?yb9 hHeld ?rb9
  case yb9=>
   intro w' hSw
   obtain ⟨hS0,hS1,hF0⟩:=hSw
   have hT0:=hiD hS0
   clear hS0
   obtain ⟨z0_0,z0_1,z0_2,z0_l⟩:=hT0.out.cells3
   have hT1:=hiD hS1
   clear hS1
   obtain ⟨z1_0,z1_l⟩:=hT1.out.cells1
   go_simp
   try (with_reducible rfl)
  go_simp
  refine lTakeW 9 ?vb10 [] rfl (by first | rfl | (go_simp;done)) ?yb10 hHeld ?rb10
  case yb10=>
   intro w' hSw
   obtain ⟨hS0,hS1,hF0⟩:=hSw
   have hT0:=hiD hS0
   clear hS0
   obtain ⟨z0_0,z0_1,z0_2,z0_l⟩:=hT0.out.cells3
   have hT1:=hiD hS1
   clear hS1
   obtain ⟨z1_0,z1_l⟩:=hT1.out.cells1
   go_simp
   try (with_reducible rfl)
  go_simp
  refine lPureW 10 ?vb11 rfl (by first | rfl | (go_simp;done)) ?yb11 ?rb11
  case yb11=>intro w' hSw;clear hSw;go_simp;try (with_reducible rfl)
  go_simp
  refine lPureW 11 ?vb12 rfl (by first | rfl | (go_simp;done)) ?yb12 ?rb12
  case yb12=>intro w' hSw;clear hSw;go_simp;try (with_reducible rfl)
  go_simp
  refine lTakeW 12 ?vb13 [] rfl (by first | rfl | (go_simp;done)) ?yb13 hHeld ?rb13
  case yb13=>
   intro w' hSw
   obtain ⟨hS0,hS1,hF0⟩:=hSw
   have hT0:=hiD hS0
   clear hS0
   obtain ⟨z0_0,z0_1,z0_2,z0_l⟩:=hT0.out.cells3
   have hT1:=hiD hS1
   clear hS1
   obtain ⟨z1_0,z1_l⟩:=hT1.out.cells1
   go_simp
   try (with_reducible rfl)
  go_simp
  refine lPureW 13 ?vb14 rfl (by first | rfl | (go_simp;done)) ?yb14 ?rb14
  case yb14=>intro w' hSw;clear hSw;go_simp;try (with_reducible rfl)
  go_simp
  refine lTakeW 14 ?vb15 [] rfl (by first | rfl | (go_simp;done)) ?yb15 hHeld ?rb15
  case yb15=>
   intro w' hSw
   obtain ⟨hS0,hS1,hF0⟩:=hSw
   have hT0:=hiD hS0
   clear hS0
   obtain ⟨z0_0,z0_1,z0_2,z0_l⟩:=hT0.out.cells3
   have hT1:=hiD hS1
   clear hS1
   obtain ⟨z1_0,z1_l⟩:=hT1.out.cells1
   go_simp
   try (with_reducible rfl)
  go_simp
  refine lPureW 15 ?vb16 rfl (by first | rfl | (go_simp;done)) ?yb16 ?rb16
  case yb16=>intro w' hSw;clear hSw;go_simp;try (with_reducible rfl)
  go_simp
  refine lTakeW 16 ?vb17 [] rfl (by first | rfl | (go_simp;done)) ?yb17 hHeld ?rb17
  case yb17=>
   intro w' hSw
   obtain ⟨hS0,hS1,hF0⟩:=hSw
   have hT0:=hiD hS0
   clear hS0
   obtain ⟨z0_0,z0_1,z0_2,z0_l⟩:=hT0.out.cells3
   have hT1:=hiD hS1
   clear hS1
   obtain ⟨z1_0,z1_l⟩:=hT1.out.cells1
   go_simp
   try (with_reducible rfl)
  go_simp
  refine lPureW 18 ?vb18 rfl (by first | rfl | (go_simp;done)) ?yb18 ?rb18
  case yb18=>intro w' hSw;clear hSw;go_simp;try (with_reducible rfl)
  go_simp
  refine lPureW 19 ?vb19 rfl (by rfl) ?yb19 ?rb19
  case yb19=>intro w' hSw;clear hSw;go_simp;try (with_reducible rfl)
  go_simp
  refine lPureW 20 ?vb20 rfl (by rfl) ?yb20 ?rb20
  case yb20=>intro w' hSw;clear hSw;go_simp;try (with_reducible rfl)
  go_simp
  refine restL_done (by kernel_rfl) ?_ _
  go_wp2_with fail
  go_ret
  exact ⟨ret_bool (by rw [HV.out ()];first | rfl | (simp;done) | (rw [Bool.eq_iff_iff];simp;omega)),B_w.out⟩
set_option maxRecDepth 100000 in
set_option maxHeartbeats 2000000 in
theorem opp_any (B b:Nat) (n:Int) (s:Wk) (x y:Int) (w:World) (h:WkAt w B b n s) (hn:0≤n∧n≤1000) (hg:s.gates.length≤20000) (hx:x < n+s.gates.length) (hx0:-1000000≤x) (hy:y < n+s.gates.length) (hy0:-1000000≤y):
 Calls Try.prog 106 #[.pointer (some ⟨b,0,none⟩),.int .i64 x,.int .i64 y] w fun e w'=>e=.returned (.bool (oppW n s.gates x y))∧Below w.heap.size w w':=by
 have HW:=hiD h
 clear h
 go_enter Try.func106,Try.ntmps106
 go_wp2_with fail
 obtain ⟨wa,hW9,RP,hgr9⟩:=laid1 w [.pointer (some ⟨b,0,none⟩)] 110
 rewrite [hW9]
 clear hW9
 have B_w:=hiD hgr9
 clear hgr9
 have HC:=neg_any B b w.heap.size n s x y wa (HW.out.below B_w.out) RP.out hn hg hx hx0
 obtain ⟨q,hq⟩:∃ q,negW n s.gates x y=q:=⟨_,rfl⟩
 rw [hq] at HC
 refine HC.mono ?_
 clear HC
 rintro e w1 ⟨rfl,hb⟩
 have B_w:=hiD (below_on2 B_w.out hb)
 have B_wa:=hiD hb
 clear hb
 cases q
 ·have HV:Hid (∀ _:Unit,oppW n s.gates x y=negW n s.gates y x):=fun _=>by unfold oppW;rw [hq,Bool.false_or]
  clear hq
  go_wp2_with fail
  have HC:=neg_any B b w.heap.size n s y x w1 (HW.out.below B_w.out) (rowCells RP.out B_wa.out) hn hg hy hy0
  refine HC.mono ?_
  clear HC
  rintro e w2 ⟨rfl,hb⟩
  have B_w:=hiD (below_on2 B_w.out hb)
  clear hb
  go_wp2_with fail
  go_ret
  exact ⟨ret_bool (by rw [HV.out ()]),B_w.out⟩
 ·have HV:Hid (∀ _:Unit,oppW n s.gates x y=true):=fun _=>by unfold oppW;rw [hq,Bool.true_or]
  clear hq
  go_wp2_with fail
  go_ret
  exact ⟨ret_bool (by rw [HV.out ()]),B_w.out⟩
end Go.Proofs.Ytiemhbogbaamlaa
/-
 A part.
-/
namespace Go.Proofs.Ytiemhbogbaamlaa
open Go.RowKit
set_option maxRecDepth 100000 in
set_option maxHeartbeats 4000000 in
theorem notO_any (B b:Nat) (n:Int) (s:Wk) (a:Int) (w:World) (h:WkAt w B b n s) (hB:B≤w.heap.size) (hn:0≤n∧n≤1000) (hg:s.gates.length≤20000) (ht:s.to.length≤30000) (ha:0≤a∧a < n+s.gates.length):
 Calls Try.prog 89 #[.pointer (some ⟨b,0,none⟩),.int .i64 a] w (fun e w'=>e=.returned (.tuple #[])∧WkAt w' B b n (addW n s (notF n s.gates a))∧WFr B w w'):=by
 have HW:=hiD h
 obtain ⟨GA,gc,TA,tc,hr,hog,_,hBb⟩:=h.op
 have RL:=hiD hr
 have HG:Hid (Rd w w.heap.size 3 GA s.gates.length (gatesCells s.gates)):=Rd.of_own hog
 clear hr hog h
 obtain ⟨q0,Hq0⟩:=naM (isW n s.gates (a) 0)
 obtain ⟨q1,Hq1⟩:=naM (isW n s.gates (a) 1)
 obtain ⟨q2,Hq2⟩:=naM (isW n s.gates (a) 2)
 cases q0
 ·cases q1
  ·cases q2
   ·have HV:Hid (∀ _:Unit,notF n s.gates a=(⟨2,a,0⟩,-1)):=fun _=>by unfold notF;rw [Hq0.out (),Hq1.out (),Hq2.out ()];rfl
    clear RL HG
    go_enter Try.func89,Try.ntmps89
    go_wp2_with fail
    have HC:=is_any B b n s (a) 0 w (HW.out) hn hg ha.2 (by omega)
    rw [Hq0.out ()] at HC
    refine HC.mono ?_
    clear HC
    rintro e w1 ⟨rfl,hb⟩
    have B_w:=hiD hb
    clear hb
    go_wp2_with fail
    have HC:=is_any B b n s (a) 1 w1 (HW.out.below B_w.out) hn hg ha.2 (by omega)
    rw [Hq1.out ()] at HC
    refine HC.mono ?_
    clear HC
    rintro e w2 ⟨rfl,hb⟩
    have B_w:=hiD (below_on2 B_w.out hb)
    clear hb
    go_wp2_with fail
    have HC:=is_any B b n s (a) 2 w2 (HW.out.below B_w.out) hn hg ha.2 (by omega)
    rw [Hq2.out ()] at HC
    refine HC.mono ?_
    clear HC
    rintro e w3 ⟨rfl,hb⟩
    have B_w:=hiD (below_on2 B_w.out hb)
    clear hb
    go_wp2_with fail
    refine (add_any B b n s ⟨2,a,0⟩ (-1) w3 (HW.out.below B_w.out) (Nat.le_trans hB B_w.out.size) hn hg ht).mono ?_
    rintro e w9 ⟨rfl,hwk,hfr⟩
    have HWK:=hiD hwk
    have HFR:Hid (WFr B w w9):=(WFr.ofBelow B_w.out hB).trans hfr
    clear hwk hfr
    go_wp2_with fail
    go_end0
    exact ⟨rfl,by rw [HV.out ()];exact HWK.out,HFR.out⟩
   ·have hle:n≤a:=by
     have hq:=Hq2.out ()
     unfold isW at hq
     rw [Bool.and_eq_true,decide_eq_true_iff] at hq
     exact hq.1
    obtain ⟨j,rfl⟩:∃ j:Nat,a=n+(j:Int):=⟨(a - n).toNat,by omega⟩
    have hj:j < s.gates.length:=by omega
    obtain ⟨ad,rfl,hab,_,c1,_⟩:=HG.out.gate hj
    obtain ⟨z,hz⟩:∃ z,(s.gates.getD j default).a=z:=⟨_,rfl⟩
    rw [hz] at c1
    have HV:Hid (∀ _:Unit,notF n s.gates (n+(j:Int))=(⟨2,n+(j:Int),0⟩,z)):=fun _=>by unfold notF;rw [Hq0.out (),Hq1.out (),Hq2.out (),argW_at,hz];rfl
    have HC1:Hid (∀ W9,Below w.heap.size w W9→W9.cell? ⟨(ad.add (j * 3)).block,(ad.add (j * 3)).off+1,none⟩=some (.int .i64 z)):=fun W9 h9=>(h9.cell (by show (ad.add (j * 3)).block < _;rw [add_block];exact hab)).trans c1
    have hi1:(j:Int) < (s.gates.length:Int):=by omega
    have hw1:IntKind.i64.wrap (n+(j:Int) - n)=(j:Int):=by
     rw [show n+(j:Int) - n=(j:Int) by omega]
     exact IntWalk.i64_in _ (by omega)
    clear c1 hz hab HG hle
    go_enter Try.func89,Try.ntmps89
    go_wp2_with fail
    have HC:=is_any B b n s (n+(j:Int)) 0 w (HW.out) hn hg ha.2 (by omega)
    rw [Hq0.out ()] at HC
    refine HC.mono ?_
    clear HC
    rintro e w1 ⟨rfl,hb⟩
    have B_w:=hiD hb
    clear hb
    go_wp2_with fail
    have HC:=is_any B b n s (n+(j:Int)) 1 w1 (HW.out.below B_w.out) hn hg ha.2 (by omega)
    rw [Hq1.out ()] at HC
    refine HC.mono ?_
    clear HC
    rintro e w2 ⟨rfl,hb⟩
    have B_w:=hiD (below_on2 B_w.out hb)
    have B_w1:=hiD hb
    clear hb
    go_wp2_with fail
    have HC:=is_any B b n s (n+(j:Int)) 2 w2 (HW.out.below B_w.out) hn hg ha.2 (by omega)
    rw [Hq2.out ()] at HC
    refine HC.mono ?_
    clear HC
    rintro e w3 ⟨rfl,hb⟩
    have B_w:=hiD (below_on2 B_w.out hb)
    have B_w2:=hiD hb
    clear hb
    go_wp2_with fail
    refine wp_region_L (fun w'=>Row w' b 115 [.int .i64 n,.slice (some ad) s.gates.length gc,.slice TA s.to.length tc]∧w'.cell? ⟨(ad.add (j * 3)).block,(ad.add (j * 3)).off+1,none⟩=some (.int .i64 z)) [16] (by kernel_rfl) (by exact ⟨Row.drew (rowCells RL.out B_w.out),HC1.out _ B_w.out.drew⟩) (fun hHeld=>?_)
    have BWd:Hid (Below w.heap.size w (World.drew w3)):=B_w.out.drew
    clear B_w B_w1 B_w2
    revert hHeld BWd
    generalize World.drew w3=wQ
    intro hHeld B_w
    refine lPureW 0 ?va1 rfl (by rfl) ?ya1 ?ra1
    case ya1=>intro w' hSw;clear hSw;go_simp;try (with_reducible rfl)
    go_simp
    refine lPureW 1 ?va2 rfl (by rfl) ?ya2 ?ra2
    case ya2=>intro w' hSw;clear hSw;go_simp;try (with_reducible rfl)
    go_simp
    refine lPureW 2 ?va3 rfl (by rfl) ?ya3 ?ra3
    case ya3=>intro w' hSw;clear hSw;go_simp;try (with_reducible rfl)
    go_simp
    refine lPureW 3 ?va4 rfl (by rfl) ?ya4 ?ra4
    case ya4=>intro w' hSw;clear hSw;go_simp;try (with_reducible rfl)
    go_simp
    refine lPureW 4 ?va5 rfl (by rfl) ?ya5 ?ra5
    case ya5=>intro w' hSw;clear hSw;go_simp;try (with_reducible rfl)
    go_simp
    refine lPureW 5 ?va6 rfl (by rfl) ?ya6 ?ra6
    case ya6=>intro w' hSw;clear hSw;go_simp;try (with_reducible rfl)
    go_simp
    refine lPureW 7 ?va7 rfl (by rfl) ?ya7 ?ra7
    case ya7=>intro w' hSw;clear hSw;go_simp;try (with_reducible rfl)
    go_simp
    refine lPureW 8 ?va8 rfl (by rfl) ?ya8 ?ra8
    case ya8=>intro w' hSw;clear hSw;go_simp;try (with_reducible rfl)
    go_simp
    refine lPureW 9 ?va9 rfl (by rfl) ?ya9 ?ra9
    case ya9=>intro w' hSw;clear hSw;go_simp;try (with_reducible rfl)
    go_simp
    refine lPureW 10 ?va10 rfl (by rfl) ?ya10 ?ra10
    case ya10=>intro w' hSw;clear hSw;go_simp;try (with_reducible rfl)
    go_simp
    refine lTakeW 6 ?va11 [[16,15,14,13]] rfl (by rfl) ?ya11 hHeld ?ra11
    case ya11=>
     intro w' hSw
     have hSh:Hid (Row w' b 115 [.int .i64 n,.slice (some ad) s.gates.length gc,.slice TA s.to.length tc]):=hSw.1
     have hSc:=hSw.2
     clear hSw
     obtain ⟨z0,z1,z2,zl⟩:=hSh.out.cells3
     go_simp
     try (with_reducible rfl)
    go_simp
    refine lTakeW 11 ?va12 [[16,15,14,13,12]] rfl (by rfl) ?ya12 hHeld ?ra12
    case ya12=>
     intro w' hSw
     have hSh:Hid (Row w' b 115 [.int .i64 n,.slice (some ad) s.gates.length gc,.slice TA s.to.length tc]):=hSw.1
     have hSc:=hSw.2
     clear hSw
     obtain ⟨z0,z1,z2,zl⟩:=hSh.out.cells3
     go_simp
     try (with_reducible rfl)
    go_simp
    refine lPureW 12 ?va13 rfl (by rfl) ?ya13 ?ra13
    case ya13=>intro w' hSw;clear hSw;go_simp;try (with_reducible rfl)
    go_simp
    refine lTakeW 13 ?va14 [[16,15,14]] rfl (by rfl) ?ya14 hHeld ?ra14
    case ya14=>
     intro w' hSw
     have hSh:Hid (Row w' b 115 [.int .i64 n,.slice (some ad) s.gates.length gc,.slice TA s.to.length tc]):=hSw.1
     have hSc:=hSw.2
     clear hSw
     obtain ⟨z0,z1,z2,zl⟩:=hSh.out.cells3
     go_simp
     try (with_reducible rfl)
    go_simp
    refine lPureW 14 ?va15 rfl (by rfl) ?ya15 ?ra15
    case ya15=>intro w' hSw;clear hSw;go_simp;try (with_reducible rfl)
    go_simp
    refine lTakeW 15 ?va16 [[16]] rfl (by rfl) ?ya16 hHeld ?ra16
    case ya16=>
     intro w' hSw
     have hSh:Hid (Row w' b 115 [.int .i64 n,.slice (some ad) s.gates.length gc,.slice TA s.to.length tc]):=hSw.1
     have hSc:=hSw.2
     clear hSw
     obtain ⟨z0,z1,z2,zl⟩:=hSh.out.cells3
     go_simp
     try (with_reducible rfl)
    go_simp
    refine restL_one (i:=16) (by kernel_rfl) rfl (fun K hK=>?_)
    go_simp
    go_at_call 86
    refine (add_any B b n s ⟨2,n+(j:Int),0⟩ z wQ (HW.out.below B_w.out) (Nat.le_trans hB B_w.out.size) hn hg ht).mono ?_
    rintro e w9 ⟨rfl,hwk,hfr⟩
    have HWK:=hiD hwk
    have HFR:Hid (WFr B w w9):=(WFr.ofBelow B_w.out hB).trans hfr
    clear hwk hfr hHeld
    refine hK.out _ _ (fun h=>absurd h (by decide)) (fun _=>?_)
    clear hK K
    try go_simp
    refine restL_done (by kernel_rfl) ?_ _
    go_wp2_with fail
    go_end0
    exact ⟨rfl,by rw [HV.out ()];exact HWK.out,HFR.out⟩
  ·have HV:Hid (∀ _:Unit,notF n s.gates a=(⟨0,0,0⟩,-1)):=fun _=>by unfold notF;rw [Hq0.out (),Hq1.out ()];rfl
   clear RL HG Hq2
   go_enter Try.func89,Try.ntmps89
   go_wp2_with fail
   have HC:=is_any B b n s (a) 0 w (HW.out) hn hg ha.2 (by omega)
   rw [Hq0.out ()] at HC
   refine HC.mono ?_
   clear HC
   rintro e w1 ⟨rfl,hb⟩
   have B_w:=hiD hb
   clear hb
   go_wp2_with fail
   have HC:=is_any B b n s (a) 1 w1 (HW.out.below B_w.out) hn hg ha.2 (by omega)
   rw [Hq1.out ()] at HC
   refine HC.mono ?_
   clear HC
   rintro e w2 ⟨rfl,hb⟩
   have B_w:=hiD (below_on2 B_w.out hb)
   clear hb
   go_wp2_with fail
   refine (add_any B b n s ⟨0,0,0⟩ (-1) w2 (HW.out.below B_w.out) (Nat.le_trans hB B_w.out.size) hn hg ht).mono ?_
   rintro e w9 ⟨rfl,hwk,hfr⟩
   have HWK:=hiD hwk
   have HFR:Hid (WFr B w w9):=(WFr.ofBelow B_w.out hB).trans hfr
   clear hwk hfr
   go_wp2_with fail
   go_end0
   exact ⟨rfl,by rw [HV.out ()];exact HWK.out,HFR.out⟩
 ·have HV:Hid (∀ _:Unit,notF n s.gates a=(⟨1,0,0⟩,-1)):=fun _=>by unfold notF;rw [Hq0.out ()];rfl
  clear RL HG Hq1 Hq2
  go_enter Try.func89,Try.ntmps89
  go_wp2_with fail
  have HC:=is_any B b n s (a) 0 w (HW.out) hn hg ha.2 (by omega)
  rw [Hq0.out ()] at HC
  refine HC.mono ?_
  clear HC
  rintro e w1 ⟨rfl,hb⟩
  have B_w:=hiD hb
  clear hb
  go_wp2_with fail
  refine (add_any B b n s ⟨1,0,0⟩ (-1) w1 (HW.out.below B_w.out) (Nat.le_trans hB B_w.out.size) hn hg ht).mono ?_
  rintro e w9 ⟨rfl,hwk,hfr⟩
  have HWK:=hiD hwk
  have HFR:Hid (WFr B w w9):=(WFr.ofBelow B_w.out hB).trans hfr
  clear hwk hfr
  go_wp2_with fail
  go_end0
  exact ⟨rfl,by rw [HV.out ()];exact HWK.out,HFR.out⟩
end Go.Proofs.Ytiemhbogbaamlaa
/-
 A part.
-/
namespace Go.Proofs.Ytiemhbogbaamlaa
open Go.RowKit
set_option maxRecDepth 100000 in
set_option maxHeartbeats 8000000 in
theorem either_any (B b:Nat) (n:Int) (s:Wk) (g:Gt) (ab ne:Int) (w:World) (h:WkAt w B b n s) (hB:B≤w.heap.size) (hn:0≤n∧n≤1000) (hg:s.gates.length≤20000) (ht:s.to.length≤30000) (hga:0≤g.a∧g.a < n+s.gates.length) (hgb:0≤g.b∧g.b < n+s.gates.length):
 Calls Try.prog 90 #[.pointer (some ⟨b,0,none⟩),.agg #[.int .i64 g.op,.int .i64 g.a,.int .i64 g.b],.int .i64 ab,.int .i64 ne] w (fun e w'=>e=.returned (.tuple #[])∧WkAt w' B b n (addW n s (eitherF n s.gates g ab ne))∧WFr B w w'):=by
 have HW:=hiD h
 clear h
 obtain ⟨qa,Hqa⟩:=naM (isW n s.gates (g.a) ab)
 obtain ⟨qb,Hqb⟩:=naM (isW n s.gates (g.b) ab)
 obtain ⟨qc,Hqc⟩:=naM (isW n s.gates (g.a) ne)
 obtain ⟨qd,Hqd⟩:=naM (isW n s.gates (g.b) ne)
 obtain ⟨qo,Hqo⟩:=naM (oppW n s.gates g.a g.b)
 go_enter Try.func90,Try.ntmps90
 go_wp2_with fail
 obtain ⟨wa,hW9,RB,hgr9⟩:=laid1 w [.int .i64 g.op,.int .i64 g.a,.int .i64 g.b] 77
 rewrite [hW9]
 clear hW9
 have B_w:=hiD hgr9
 clear hgr9
 obtain ⟨k0,k1,k2,kl⟩:=RB.out.cells3
 go_wp2_with fail
 have HC:=is_any B b n s (g.a) ab wa (HW.out.below B_w.out) hn hg hga.2 (by omega)
 rw [Hqa.out ()] at HC
 refine HC.mono ?_
 clear HC
 rintro e w1 ⟨rfl,hb⟩
 have B_w:=hiD (below_on2 B_w.out hb)
 have B_wa:=hiD hb
 clear k0 k1 k2 kl
 clear hb
 cases qa
 ·skip
  obtain ⟨k0,k1,k2,kl⟩:=(rowCells RB.out B_wa.out).cells3
  go_wp2_with fail
  have HC:=is_any B b n s (g.b) ab w1 (HW.out.below B_w.out) hn hg hgb.2 (by omega)
  rw [Hqb.out ()] at HC
  refine HC.mono ?_
  clear HC
  rintro e w2 ⟨rfl,hb⟩
  have B_w:=hiD (below_on2 B_w.out hb)
  have B_wa:=hiD (below_on2 B_wa.out hb)
  clear k0 k1 k2 kl
  clear hb
  cases qb
  ·skip
   obtain ⟨k0,k1,k2,kl⟩:=(rowCells RB.out B_wa.out).cells3
   go_wp2_with fail
   have HC:=is_any B b n s (g.a) ne w2 (HW.out.below B_w.out) hn hg hga.2 (by omega)
   rw [Hqc.out ()] at HC
   refine HC.mono ?_
   clear HC
   rintro e w3 ⟨rfl,hb⟩
   have B_w:=hiD (below_on2 B_w.out hb)
   have B_wa:=hiD (below_on2 B_wa.out hb)
   clear k0 k1 k2 kl
   clear hb
   cases qc
   ·skip
    obtain ⟨k0,k1,k2,kl⟩:=(rowCells RB.out B_wa.out).cells3
    go_wp2_with fail
    have HC:=is_any B b n s (g.b) ne w3 (HW.out.below B_w.out) hn hg hgb.2 (by omega)
    rw [Hqd.out ()] at HC
    refine HC.mono ?_
    clear HC
    rintro e w4 ⟨rfl,hb⟩
    have B_w:=hiD (below_on2 B_w.out hb)
    have B_wa:=hiD (below_on2 B_wa.out hb)
    clear k0 k1 k2 kl
    clear hb
    cases qd
    ·skip
     by_cases heq:g.a=g.b
     ·have Hqe:=hiU heq
      have hdq:(g.a == g.b)=true:=by simp [heq]
      have hdr:decide (g.a=g.b)=true:=decide_eq_true heq
      clear heq
      obtain ⟨k0,k1,k2,kl⟩:=(rowCells RB.out B_wa.out).cells3
      go_wp2_with fail
      refine (add_any B b n s g (g.a) w4 (HW.out.below B_w.out) (Nat.le_trans hB B_w.out.size) hn hg ht).mono ?_
      rintro e w9 ⟨rfl,hwk,hfr⟩
      have HWK:=hiD hwk
      have HFR:Hid (WFr B w w9):=(WFr.ofBelow B_w.out hB).trans hfr
      clear hwk hfr
      go_wp2_with fail
      go_end0
      exact ⟨rfl,by rw [(show eitherF n s.gates g ab ne=((g,g.a):Gt × Int) from by simp [eitherF,Hqa.out (),Hqb.out (),Hqc.out (),Hqd.out (),Hqe.out ()])];exact HWK.out,HFR.out⟩
     ·have Hqe:=hiU heq
      have hdq:(g.a == g.b)=false:=by simp [heq]
      have hdr:decide (g.a=g.b)=false:=decide_eq_false heq
      clear heq
      obtain ⟨k0,k1,k2,kl⟩:=(rowCells RB.out B_wa.out).cells3
      go_wp2_with fail
      have HC:=opp_any B b n s g.a g.b w4 (HW.out.below B_w.out) hn hg hga.2 (by omega) hgb.2 (by omega)
      rw [Hqo.out ()] at HC
      refine HC.mono ?_
      clear HC
      rintro e w5 ⟨rfl,hb⟩
      have B_w:=hiD (below_on2 B_w.out hb)
      have B_wa:=hiD (below_on2 B_wa.out hb)
      clear k0 k1 k2 kl
      clear hb
      cases qo
      ·skip
       obtain ⟨k0,k1,k2,kl⟩:=(rowCells RB.out B_wa.out).cells3
       go_wp2_with fail
       refine (add_any B b n s g (-1) w5 (HW.out.below B_w.out) (Nat.le_trans hB B_w.out.size) hn hg ht).mono ?_
       rintro e w9 ⟨rfl,hwk,hfr⟩
       have HWK:=hiD hwk
       have HFR:Hid (WFr B w w9):=(WFr.ofBelow B_w.out hB).trans hfr
       clear hwk hfr
       go_wp2_with fail
       go_end0
       exact ⟨rfl,by rw [(show eitherF n s.gates g ab ne=((g,-1):Gt × Int) from by simp [eitherF,Hqa.out (),Hqb.out (),Hqc.out (),Hqd.out (),Hqe.out (),Hqo.out ()])];exact HWK.out,HFR.out⟩
      ·skip
       obtain ⟨k0,k1,k2,kl⟩:=(rowCells RB.out B_wa.out).cells3
       go_wp2_with fail
       refine (add_any B b n s ⟨ab,0,0⟩ (-1) w5 (HW.out.below B_w.out) (Nat.le_trans hB B_w.out.size) hn hg ht).mono ?_
       rintro e w9 ⟨rfl,hwk,hfr⟩
       have HWK:=hiD hwk
       have HFR:Hid (WFr B w w9):=(WFr.ofBelow B_w.out hB).trans hfr
       clear hwk hfr
       go_wp2_with fail
       go_end0
       exact ⟨rfl,by rw [(show eitherF n s.gates g ab ne=((⟨ab,0,0⟩,-1):Gt × Int) from by simp [eitherF,Hqa.out (),Hqb.out (),Hqc.out (),Hqd.out (),Hqe.out (),Hqo.out ()])];exact HWK.out,HFR.out⟩
    ·skip
     obtain ⟨k0,k1,k2,kl⟩:=(rowCells RB.out B_wa.out).cells3
     go_wp2_with fail
     refine (add_any B b n s g (g.a) w4 (HW.out.below B_w.out) (Nat.le_trans hB B_w.out.size) hn hg ht).mono ?_
     rintro e w9 ⟨rfl,hwk,hfr⟩
     have HWK:=hiD hwk
     have HFR:Hid (WFr B w w9):=(WFr.ofBelow B_w.out hB).trans hfr
     clear hwk hfr
     go_wp2_with fail
     go_end0
     exact ⟨rfl,by rw [(show eitherF n s.gates g ab ne=((g,g.a):Gt × Int) from by simp [eitherF,Hqa.out (),Hqb.out (),Hqc.out (),Hqd.out ()])];exact HWK.out,HFR.out⟩
   ·skip
    obtain ⟨k0,k1,k2,kl⟩:=(rowCells RB.out B_wa.out).cells3
    go_wp2_with fail
    refine (add_any B b n s g (g.b) w3 (HW.out.below B_w.out) (Nat.le_trans hB B_w.out.size) hn hg ht).mono ?_
    rintro e w9 ⟨rfl,hwk,hfr⟩
    have HWK:=hiD hwk
    have HFR:Hid (WFr B w w9):=(WFr.ofBelow B_w.out hB).trans hfr
    clear hwk hfr
    go_wp2_with fail
    go_end0
    exact ⟨rfl,by rw [(show eitherF n s.gates g ab ne=((g,g.b):Gt × Int) from by simp [eitherF,Hqa.out (),Hqb.out (),Hqc.out ()])];exact HWK.out,HFR.out⟩
  ·skip
   obtain ⟨k0,k1,k2,kl⟩:=(rowCells RB.out B_wa.out).cells3
   go_wp2_with fail
   refine (add_any B b n s ⟨ab,0,0⟩ (-1) w2 (HW.out.below B_w.out) (Nat.le_trans hB B_w.out.size) hn hg ht).mono ?_
   rintro e w9 ⟨rfl,hwk,hfr⟩
   have HWK:=hiD hwk
   have HFR:Hid (WFr B w w9):=(WFr.ofBelow B_w.out hB).trans hfr
   clear hwk hfr
   go_wp2_with fail
   go_end0
   exact ⟨rfl,by rw [(show eitherF n s.gates g ab ne=((⟨ab,0,0⟩,-1):Gt × Int) from by simp [eitherF,Hqa.out (),Hqb.out ()])];exact HWK.out,HFR.out⟩
 ·skip
  obtain ⟨k0,k1,k2,kl⟩:=(rowCells RB.out B_wa.out).cells3
  go_wp2_with fail
  refine (add_any B b n s ⟨ab,0,0⟩ (-1) w1 (HW.out.below B_w.out) (Nat.le_trans hB B_w.out.size) hn hg ht).mono ?_
  rintro e w9 ⟨rfl,hwk,hfr⟩
  have HWK:=hiD hwk
  have HFR:Hid (WFr B w w9):=(WFr.ofBelow B_w.out hB).trans hfr
  clear hwk hfr
  go_wp2_with fail
  go_end0
  exact ⟨rfl,by rw [(show eitherF n s.gates g ab ne=((⟨ab,0,0⟩,-1):Gt × Int) from by simp [eitherF,Hqa.out ()])];exact HWK.out,HFR.out⟩
set_option maxRecDepth 100000 in
set_option maxHeartbeats 8000000 in
theorem xor_any (B b:Nat) (n:Int) (s:Wk) (g:Gt) (w:World) (h:WkAt w B b n s) (hB:B≤w.heap.size) (hn:0≤n∧n≤1000) (hg:s.gates.length≤20000) (ht:s.to.length≤30000) (hga:0≤g.a∧g.a < n+s.gates.length) (hgb:0≤g.b∧g.b < n+s.gates.length):
 Calls Try.prog 91 #[.pointer (some ⟨b,0,none⟩),.agg #[.int .i64 g.op,.int .i64 g.a,.int .i64 g.b]] w (fun e w'=>e=.returned (.tuple #[])∧WkAt w' B b n (addW n s (xorF n s.gates g))∧WFr B w w'):=by
 have HW:=hiD h
 clear h
 obtain ⟨qa,Hqa⟩:=naM (isW n s.gates (g.a) 0)
 obtain ⟨qb,Hqb⟩:=naM (isW n s.gates (g.b) 0)
 obtain ⟨qc,Hqc⟩:=naM (isW n s.gates (g.a) 1)
 obtain ⟨qd,Hqd⟩:=naM (isW n s.gates (g.b) 1)
 obtain ⟨qo,Hqo⟩:=naM (oppW n s.gates g.a g.b)
 go_enter Try.func91,Try.ntmps91
 go_wp2_with fail
 obtain ⟨wa,hW9,RB,hgr9⟩:=laid1 w [.int .i64 g.op,.int .i64 g.a,.int .i64 g.b] 77
 rewrite [hW9]
 clear hW9
 have B_w:=hiD hgr9
 clear hgr9
 obtain ⟨k0,k1,k2,kl⟩:=RB.out.cells3
 go_wp2_with fail
 have HC:=is_any B b n s (g.a) 0 wa (HW.out.below B_w.out) hn hg hga.2 (by omega)
 rw [Hqa.out ()] at HC
 refine HC.mono ?_
 clear HC
 rintro e w6 ⟨rfl,hb⟩
 have B_w:=hiD (below_on2 B_w.out hb)
 have B_wa:=hiD hb
 clear k0 k1 k2 kl
 clear hb
 cases qa
 ·skip
  obtain ⟨k0,k1,k2,kl⟩:=(rowCells RB.out B_wa.out).cells3
  go_wp2_with fail
  have HC:=is_any B b n s (g.b) 0 w6 (HW.out.below B_w.out) hn hg hgb.2 (by omega)
  rw [Hqb.out ()] at HC
  refine HC.mono ?_
  clear HC
  rintro e w7 ⟨rfl,hb⟩
  have B_w:=hiD (below_on2 B_w.out hb)
  have B_wa:=hiD (below_on2 B_wa.out hb)
  clear k0 k1 k2 kl
  clear hb
  cases qb
  ·skip
   by_cases heq:g.a=g.b
   ·have Hqe:=hiU heq
    have hdq:(g.a == g.b)=true:=by simp [heq]
    have hdr:decide (g.a=g.b)=true:=decide_eq_true heq
    clear heq
    obtain ⟨k0,k1,k2,kl⟩:=(rowCells RB.out B_wa.out).cells3
    go_wp2_with fail
    refine (add_any B b n s ⟨0,0,0⟩ (-1) w7 (HW.out.below B_w.out) (Nat.le_trans hB B_w.out.size) hn hg ht).mono ?_
    rintro e w9 ⟨rfl,hwk,hfr⟩
    have HWK:=hiD hwk
    have HFR:Hid (WFr B w w9):=(WFr.ofBelow B_w.out hB).trans hfr
    clear hwk hfr
    go_wp2_with fail
    go_end0
    exact ⟨rfl,by rw [(show xorF n s.gates g=((⟨0,0,0⟩,-1):Gt × Int) from by simp [xorF,Hqa.out (),Hqb.out (),Hqe.out ()])];exact HWK.out,HFR.out⟩
   ·have Hqe:=hiU heq
    have hdq:(g.a == g.b)=false:=by simp [heq]
    have hdr:decide (g.a=g.b)=false:=decide_eq_false heq
    clear heq
    obtain ⟨k0,k1,k2,kl⟩:=(rowCells RB.out B_wa.out).cells3
    go_wp2_with fail
    have HC:=opp_any B b n s g.a g.b w7 (HW.out.below B_w.out) hn hg hga.2 (by omega) hgb.2 (by omega)
    rw [Hqo.out ()] at HC
    refine HC.mono ?_
    clear HC
    rintro e w8 ⟨rfl,hb⟩
    have B_w:=hiD (below_on2 B_w.out hb)
    have B_wa:=hiD (below_on2 B_wa.out hb)
    clear k0 k1 k2 kl
    clear hb
    cases qo
    ·skip
     obtain ⟨k0,k1,k2,kl⟩:=(rowCells RB.out B_wa.out).cells3
     go_wp2_with fail
     have HC:=is_any B b n s (g.a) 1 w8 (HW.out.below B_w.out) hn hg hga.2 (by omega)
     rw [Hqc.out ()] at HC
     refine HC.mono ?_
     clear HC
     rintro e w9 ⟨rfl,hb⟩
     have B_w:=hiD (below_on2 B_w.out hb)
     have B_wa:=hiD (below_on2 B_wa.out hb)
     clear k0 k1 k2 kl
     clear hb
     cases qc
     ·skip
      obtain ⟨k0,k1,k2,kl⟩:=(rowCells RB.out B_wa.out).cells3
      go_wp2_with fail
      have HC:=is_any B b n s (g.b) 1 w9 (HW.out.below B_w.out) hn hg hgb.2 (by omega)
      rw [Hqd.out ()] at HC
      refine HC.mono ?_
      clear HC
      rintro e w10 ⟨rfl,hb⟩
      have B_w:=hiD (below_on2 B_w.out hb)
      have B_wa:=hiD (below_on2 B_wa.out hb)
      clear k0 k1 k2 kl
      clear hb
      cases qd
      ·skip
       obtain ⟨k0,k1,k2,kl⟩:=(rowCells RB.out B_wa.out).cells3
       go_wp2_with fail
       refine (add_any B b n s g (-1) w10 (HW.out.below B_w.out) (Nat.le_trans hB B_w.out.size) hn hg ht).mono ?_
       rintro e w9 ⟨rfl,hwk,hfr⟩
       have HWK:=hiD hwk
       have HFR:Hid (WFr B w w9):=(WFr.ofBelow B_w.out hB).trans hfr
       clear hwk hfr
       go_wp2_with fail
       go_end0
       exact ⟨rfl,by rw [(show xorF n s.gates g=((g,-1):Gt × Int) from by simp [xorF,Hqa.out (),Hqb.out (),Hqe.out (),Hqo.out (),Hqc.out (),Hqd.out ()])];exact HWK.out,HFR.out⟩
      ·skip
       obtain ⟨k0,k1,k2,kl⟩:=(rowCells RB.out B_wa.out).cells3
       go_wp2_with fail
       refine (notO_any B b n s g.a w10 (HW.out.below B_w.out) (Nat.le_trans hB B_w.out.size) hn hg ht hga).mono ?_
       rintro e w9 ⟨rfl,hwk,hfr⟩
       have HWK:=hiD hwk
       have HFR:Hid (WFr B w w9):=(WFr.ofBelow B_w.out hB).trans hfr
       clear hwk hfr
       go_wp2_with fail
       go_end0
       exact ⟨rfl,by rw [(show xorF n s.gates g=notF n s.gates g.a from by simp [xorF,Hqa.out (),Hqb.out (),Hqe.out (),Hqo.out (),Hqc.out (),Hqd.out ()])];exact HWK.out,HFR.out⟩
     ·skip
      obtain ⟨k0,k1,k2,kl⟩:=(rowCells RB.out B_wa.out).cells3
      go_wp2_with fail
      refine (notO_any B b n s g.b w9 (HW.out.below B_w.out) (Nat.le_trans hB B_w.out.size) hn hg ht hgb).mono ?_
      rintro e w9 ⟨rfl,hwk,hfr⟩
      have HWK:=hiD hwk
      have HFR:Hid (WFr B w w9):=(WFr.ofBelow B_w.out hB).trans hfr
      clear hwk hfr
      go_wp2_with fail
      go_end0
      exact ⟨rfl,by rw [(show xorF n s.gates g=notF n s.gates g.b from by simp [xorF,Hqa.out (),Hqb.out (),Hqe.out (),Hqo.out (),Hqc.out ()])];exact HWK.out,HFR.out⟩
    ·skip
     obtain ⟨k0,k1,k2,kl⟩:=(rowCells RB.out B_wa.out).cells3
     go_wp2_with fail
     refine (add_any B b n s ⟨1,0,0⟩ (-1) w8 (HW.out.below B_w.out) (Nat.le_trans hB B_w.out.size) hn hg ht).mono ?_
     rintro e w9 ⟨rfl,hwk,hfr⟩
     have HWK:=hiD hwk
     have HFR:Hid (WFr B w w9):=(WFr.ofBelow B_w.out hB).trans hfr
     clear hwk hfr
     go_wp2_with fail
     go_end0
     exact ⟨rfl,by rw [(show xorF n s.gates g=((⟨1,0,0⟩,-1):Gt × Int) from by simp [xorF,Hqa.out (),Hqb.out (),Hqe.out (),Hqo.out ()])];exact HWK.out,HFR.out⟩
  ·skip
   obtain ⟨k0,k1,k2,kl⟩:=(rowCells RB.out B_wa.out).cells3
   go_wp2_with fail
   refine (add_any B b n s g (g.a) w7 (HW.out.below B_w.out) (Nat.le_trans hB B_w.out.size) hn hg ht).mono ?_
   rintro e w9 ⟨rfl,hwk,hfr⟩
   have HWK:=hiD hwk
   have HFR:Hid (WFr B w w9):=(WFr.ofBelow B_w.out hB).trans hfr
   clear hwk hfr
   go_wp2_with fail
   go_end0
   exact ⟨rfl,by rw [(show xorF n s.gates g=((g,g.a):Gt × Int) from by simp [xorF,Hqa.out (),Hqb.out ()])];exact HWK.out,HFR.out⟩
 ·skip
  obtain ⟨k0,k1,k2,kl⟩:=(rowCells RB.out B_wa.out).cells3
  go_wp2_with fail
  refine (add_any B b n s g (g.b) w6 (HW.out.below B_w.out) (Nat.le_trans hB B_w.out.size) hn hg ht).mono ?_
  rintro e w9 ⟨rfl,hwk,hfr⟩
  have HWK:=hiD hwk
  have HFR:Hid (WFr B w w9):=(WFr.ofBelow B_w.out hB).trans hfr
  clear hwk hfr
  go_wp2_with fail
  go_end0
  exact ⟨rfl,by rw [(show xorF n s.gates g=((g,g.b):Gt × Int) from by simp [xorF,Hqa.out ()])];exact HWK.out,HFR.out⟩
end Go.Proofs.Ytiemhbogbaamlaa
