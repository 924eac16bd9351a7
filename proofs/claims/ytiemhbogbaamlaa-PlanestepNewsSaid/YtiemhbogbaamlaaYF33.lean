/-
 A part.
-/
import Derived.Test.YtiemhbogbaamlaaYF1
import Derived.Test.YtiemhbogbaamlaaYF32
import Derived.Test.YtiemhbogbaamlaaYF4
import Derived.BigQuiet
set_option linter.unusedSimpArgs false
set_option linter.unusedVariables false
namespace Go.Proofs.Ytiemhbogbaamlaa
open Go.RowKit
set_option maxRecDepth 100000 in
set_option maxHeartbeats 8000000 in
theorem rNot_any (n:Int) (gs:List Gt) (GA OA:Option Addr) (gn gc on oc:Nat) (x:Int) (w:World) (hG:Rd w w.heap.size 3 GA gn (gatesCells gs)) (hn:0≤n∧n≤1000) (hg:gn≤20000) (hx:0≤x∧x < n+(gn:Int)):
 Calls Try.prog 99 #[.agg #[.int .i64 n,.slice GA gn gc,.slice OA on oc],.agg #[.int .i64 2,.int .i64 x,.int .i64 0]] w (fun e w'=>e=.returned (.tuple #[.agg #[.int .i64 (notF n gs x).1.op,.int .i64 (notF n gs x).1.a,.int .i64 (notF n gs x).1.b],.int .i64 (notF n gs x).2])∧Below w.heap.size w w'):=by
 have HG:=hiD hG
 have HBx:=hiD hx
 clear hG hx
 obtain ⟨P0,HP0⟩:=naM (isW n gs (x) 0)
 obtain ⟨P1,HP1⟩:=naM (isW n gs (x) 1)
 obtain ⟨P2,HP2⟩:=naM (isW n gs (x) 2)
 go_enter Try.func99,Try.ntmps99
 go_upto_region 1 with fail
 obtain ⟨wa,hW9,RC,RG,RR,hgr9⟩:=laid3 w [.int .i64 n,.slice GA gn gc,.slice OA on oc] 37 [.int .i64 2,.int .i64 x,.int .i64 0] 77 [.int .i64 0,.int .i64 0,.int .i64 0] 77
 rewrite [hW9]
 clear hW9
 have B_w:=hiD hgr9
 clear hgr9
 have hwa:w.heap.size+1+1 < wa.heap.size:=RR.out.lt
 obtain ⟨g0,g1,g2,gl⟩:=RG.out.cells3
 go_quiet (fail)
 have B_w:=hiD (below_drewN B_w.out nq)
 have B_wa:Hid (Below wa.heap.size wa (wa.drewN nq)):=below_drewN (Below.refl _ _) nq
 clear g0 g1 g2 gl
 revert B_w B_wa
 generalize (wa.drewN nq)=wb
 intro B_w B_wa
 go_upto_region 3 with fail
 obtain ⟨wc,hW9,RZ,RO,hgr9⟩:=laid2 wb [.int .i64 0,.int .i64 0,.int .i64 0] 77 [.int .i64 1,.int .i64 0,.int .i64 0] 77
 rewrite [hW9]
 clear hW9
 have B_w:=hiD (below_on2 B_w.out hgr9)
 have B_wa:=hiD (below_on2 B_wa.out hgr9)
 have B_wb:=hiD hgr9
 clear hgr9
 obtain ⟨c0,c1,c2,cl⟩:=(rowCells RC.out B_wa.out).cells3
 obtain ⟨g0,g1,g2,gl⟩:=(rowCells RG.out B_wa.out).cells3
 obtain ⟨z0,z1,z2,zl⟩:=RZ.out.cells3
 obtain ⟨o0,o1,o2,ol⟩:=RO.out.cells3
 go_wp2_with fail
 have HC:=rIs_any n gs GA OA gn gc on oc (x) 0 wc ((HG.out.up B_w.out)) hn hg HBx.out.2 (by have:=HBx.out.1;omega)
 rw [HP0.out ()] at HC
 refine HC.mono ?_
 clear HC
 rintro e x1 ⟨rfl,hb⟩
 have B_w:=hiD (below_on2 B_w.out hb)
 have B_wa:=hiD (below_on2 B_wa.out hb)
 have B_wc:=hiD hb
 clear c0 c1 c2 cl g0 g1 g2 gl z0 z1 z2 zl o0 o1 o2 ol
 clear hb
 cases P0
 ·skip
  obtain ⟨c0,c1,c2,cl⟩:=(rowCells RC.out B_wa.out).cells3
  obtain ⟨g0,g1,g2,gl⟩:=(rowCells RG.out B_wa.out).cells3
  obtain ⟨z0,z1,z2,zl⟩:=(rowCells RZ.out B_wc.out).cells3
  obtain ⟨o0,o1,o2,ol⟩:=(rowCells RO.out B_wc.out).cells3
  go_wp2_with fail
  have HC:=rIs_any n gs GA OA gn gc on oc (x) 1 x1 ((HG.out.up B_w.out)) hn hg HBx.out.2 (by have:=HBx.out.1;omega)
  rw [HP1.out ()] at HC
  refine HC.mono ?_
  clear HC
  rintro e x2 ⟨rfl,hb⟩
  have B_w:=hiD (below_on2 B_w.out hb)
  have B_wa:=hiD (below_on2 B_wa.out hb)
  have B_wc:=hiD (below_on2 B_wc.out hb)
  have B_x1:=hiD hb
  clear c0 c1 c2 cl g0 g1 g2 gl z0 z1 z2 zl o0 o1 o2 ol
  clear hb
  cases P1
  ·skip
   obtain ⟨c0,c1,c2,cl⟩:=(rowCells RC.out B_wa.out).cells3
   obtain ⟨g0,g1,g2,gl⟩:=(rowCells RG.out B_wa.out).cells3
   obtain ⟨z0,z1,z2,zl⟩:=(rowCells RZ.out B_wc.out).cells3
   obtain ⟨o0,o1,o2,ol⟩:=(rowCells RO.out B_wc.out).cells3
   go_wp2_with fail
   have HC:=rIs_any n gs GA OA gn gc on oc (x) 2 x2 ((HG.out.up B_w.out)) hn hg HBx.out.2 (by have:=HBx.out.1;omega)
   rw [HP2.out ()] at HC
   refine HC.mono ?_
   clear HC
   rintro e x3 ⟨rfl,hb⟩
   have B_w:=hiD (below_on2 B_w.out hb)
   have B_wa:=hiD (below_on2 B_wa.out hb)
   have B_wc:=hiD (below_on2 B_wc.out hb)
   have B_x2:=hiD hb
   clear c0 c1 c2 cl g0 g1 g2 gl z0 z1 z2 zl o0 o1 o2 ol
   clear hb
   cases P2
   ·skip
    obtain ⟨c0,c1,c2,cl⟩:=(rowCells RC.out B_wa.out).cells3
    obtain ⟨g0,g1,g2,gl⟩:=(rowCells RG.out B_wa.out).cells3
    obtain ⟨z0,z1,z2,zl⟩:=(rowCells RZ.out B_wc.out).cells3
    obtain ⟨o0,o1,o2,ol⟩:=(rowCells RO.out B_wc.out).cells3
    obtain ⟨r0,r1,r2,rl⟩:=(rowCells RR.out B_wa.out).cells3
    have RRf:=hiD (rowCells RR.out B_wa.out)
    obtain ⟨rf0,rf1,rf2⟩:=RRf.out.froz3
    go_wp2
    have Z9:=RRf.out.set3 (.int .i64 2) (.int .i64 x) (.int .i64 0)
    have B9:=bSet3 B_w.out (w.heap.size+1+1) (by show _≤(w.heap.size+1+1);omega) (.int .i64 2) (.int .i64 x) (.int .i64 0)
    obtain ⟨d0,d1,d2,-⟩:=Z9.cells3
    clear Z9
    refine bodyPost_ret (v:=.tuple #[.agg #[.int .i64 2,.int .i64 x,.int .i64 0],.int .i64 (-1)]) (by simp [results,Try.results99,go_sem,d0,d1,d2]) rfl ?_
    have HV:=(show notF n gs x=(⟨2,x,0⟩,-1) from by unfold notF;simp [HP0.out (),HP1.out (),HP2.out ()])
    exact ⟨by rw [HV],B9⟩
   ·skip
    obtain ⟨j,ad,rfl,hj,rfl,hab,hcx⟩:=isW_data HG.out (HP2.out ()) HBx.out.2
    have HCX:=hiD hcx
    obtain ⟨zz,hzz⟩:∃ z,argW n gs (n+(j:Int))=z:=⟨_,rfl⟩
    have HZZ:=hiU hzz
    rw [hzz] at HCX
    have hi1:(j:Int) < (gn:Int):=by omega
    have hw1:IntKind.i64.wrap (n+(j:Int) - n)=(j:Int):=by
     rw [show n+(j:Int) - n=(j:Int) by omega]
     exact IntWalk.i64_in _ (by omega)
    have R1:=hiD (rowCells RC.out B_wa.out)
    have R2:=hiD (rowCells RG.out B_wa.out)
    have R3:=hiD (rowCells RR.out B_wa.out)
    have BW:=hiD B_w
    clear hcx hzz
    go_upto_region 10 with fail
    refine wp_region_L (fun w'=>Row w' w.heap.size 37 [.int .i64 n,.slice (some ad) gn gc,.slice OA on oc]∧Row w' (w.heap.size+1) 77 [.int .i64 2,.int .i64 (n+(j:Int)),.int .i64 0]∧w'.cell? ⟨(ad.add (j * 3)).block,(ad.add (j * 3)).off+1,none⟩=some (.int .i64 zz)) [] (by kernel_rfl) (by exact ⟨R1.out.drew,R2.out.drew,HCX.out _ BW.out.drew⟩) (fun hHeld=>?_)
    have R1d:Hid (Row (World.drew x3) w.heap.size 37 [.int .i64 n,.slice (some ad) gn gc,.slice OA on oc]):=R1.out.drew
    have R2d:Hid (Row (World.drew x3) (w.heap.size+1) 77 [.int .i64 2,.int .i64 (n+(j:Int)),.int .i64 0]):=R2.out.drew
    have R3d:Hid (Row (World.drew x3) (w.heap.size+1+1) 77 [.int .i64 0,.int .i64 0,.int .i64 0]):=R3.out.drew
    have BWd:Hid (Below w.heap.size w (World.drew x3)):=BW.out.drew
    clear R1 R2 R3 BW B_w B_wa B_wb B_wc B_x1 B_x2
    revert hHeld R1d R2d R3d BWd
    generalize World.drew x3=wQ
    intro hHeld R1 R2 R3 BW
    refine lPureW 1 ?va1 rfl (by rfl) ?ya1 ?ra1
    case ya1=>intro w' hSw;clear hSw;go_simp;try (with_reducible rfl)
    go_simp
    refine lPureW 3 ?va2 rfl (by rfl) ?ya2 ?ra2
    case ya2=>intro w' hSw;clear hSw;go_simp;try (with_reducible rfl)
    go_simp
    refine lPureW 4 ?va3 rfl (by rfl) ?ya3 ?ra3
    case ya3=>intro w' hSw;clear hSw;go_simp;try (with_reducible rfl)
    go_simp
    refine lTakeW 0 ?va4 [] rfl (by rfl) ?ya4 hHeld ?ra4
    case ya4=>
     intro w' hSw
     have hS1:Hid (Row w' w.heap.size 37 [.int .i64 n,.slice (some ad) gn gc,.slice OA on oc]):=hSw.1
     have hS2:Hid (Row w' (w.heap.size+1) 77 [.int .i64 2,.int .i64 (n+(j:Int)),.int .i64 0]):=hSw.2.1
     have hS3:=hSw.2.2
     clear hSw
     obtain ⟨u0,u1,u2,ul⟩:=hS1.out.cells3
     obtain ⟨v0,v1,v2,vl⟩:=hS2.out.cells3
     go_simp
     try (with_reducible rfl)
    go_simp
    refine lTakeW 2 ?va5 [] rfl (by rfl) ?ya5 hHeld ?ra5
    case ya5=>
     intro w' hSw
     have hS1:Hid (Row w' w.heap.size 37 [.int .i64 n,.slice (some ad) gn gc,.slice OA on oc]):=hSw.1
     have hS2:Hid (Row w' (w.heap.size+1) 77 [.int .i64 2,.int .i64 (n+(j:Int)),.int .i64 0]):=hSw.2.1
     have hS3:=hSw.2.2
     clear hSw
     obtain ⟨u0,u1,u2,ul⟩:=hS1.out.cells3
     obtain ⟨v0,v1,v2,vl⟩:=hS2.out.cells3
     go_simp
     try (with_reducible rfl)
    go_simp
    refine lTakeW 5 ?va6 [] rfl (by rfl) ?ya6 hHeld ?ra6
    case ya6=>
     intro w' hSw
     have hS1:Hid (Row w' w.heap.size 37 [.int .i64 n,.slice (some ad) gn gc,.slice OA on oc]):=hSw.1
     have hS2:Hid (Row w' (w.heap.size+1) 77 [.int .i64 2,.int .i64 (n+(j:Int)),.int .i64 0]):=hSw.2.1
     have hS3:=hSw.2.2
     clear hSw
     obtain ⟨u0,u1,u2,ul⟩:=hS1.out.cells3
     obtain ⟨v0,v1,v2,vl⟩:=hS2.out.cells3
     go_simp
     try (with_reducible rfl)
    go_simp
    refine lPureW 6 ?va7 rfl (by rfl) ?ya7 ?ra7
    case ya7=>intro w' hSw;clear hSw;go_simp;try (with_reducible rfl)
    go_simp
    refine lTakeW 7 ?va8 [] rfl (by rfl) ?ya8 hHeld ?ra8
    case ya8=>
     intro w' hSw
     have hS1:Hid (Row w' w.heap.size 37 [.int .i64 n,.slice (some ad) gn gc,.slice OA on oc]):=hSw.1
     have hS2:Hid (Row w' (w.heap.size+1) 77 [.int .i64 2,.int .i64 (n+(j:Int)),.int .i64 0]):=hSw.2.1
     have hS3:=hSw.2.2
     clear hSw
     obtain ⟨u0,u1,u2,ul⟩:=hS1.out.cells3
     obtain ⟨v0,v1,v2,vl⟩:=hS2.out.cells3
     go_simp
     try (with_reducible rfl)
    go_simp
    refine lPureW 8 ?va9 rfl (by rfl) ?ya9 ?ra9
    case ya9=>intro w' hSw;clear hSw;go_simp;try (with_reducible rfl)
    go_simp
    refine lTakeW 9 ?va10 [] rfl (by rfl) ?ya10 hHeld ?ra10
    case ya10=>
     intro w' hSw
     have hS1:Hid (Row w' w.heap.size 37 [.int .i64 n,.slice (some ad) gn gc,.slice OA on oc]):=hSw.1
     have hS2:Hid (Row w' (w.heap.size+1) 77 [.int .i64 2,.int .i64 (n+(j:Int)),.int .i64 0]):=hSw.2.1
     have hS3:=hSw.2.2
     clear hSw
     obtain ⟨u0,u1,u2,ul⟩:=hS1.out.cells3
     obtain ⟨v0,v1,v2,vl⟩:=hS2.out.cells3
     go_simp
     try (with_reducible rfl)
    go_simp
    refine restL_one (i:=10) (by kernel_rfl) rfl (fun K hK=>?_)
    obtain ⟨r0,r1,r2,rl⟩:=R3.out.cells3
    obtain ⟨rf0,rf1,rf2⟩:=R3.out.froz3
    go_simp
    have R1e:Hid (Row (World.setCell (World.setCell (World.setCell wQ ⟨(w.heap.size+1+1),0,none⟩ (.int .i64 2)) ⟨(w.heap.size+1+1),1,none⟩ (.int .i64 (n+(j:Int)))) ⟨(w.heap.size+1+1),2,none⟩ (.int .i64 0)) w.heap.size 37 [.int .i64 n,.slice (some ad) gn gc,.slice OA on oc]):=((((((R1.out).far (p:=⟨(w.heap.size+1+1),0,none⟩) (by show w.heap.size≠(w.heap.size+1+1);omega) (.int .i64 2))).far (p:=⟨(w.heap.size+1+1),1,none⟩) (by show w.heap.size≠(w.heap.size+1+1);omega) (.int .i64 (n+(j:Int))))).far (p:=⟨(w.heap.size+1+1),2,none⟩) (by show w.heap.size≠(w.heap.size+1+1);omega) (.int .i64 0))
    have R2e:Hid (Row (World.setCell (World.setCell (World.setCell wQ ⟨(w.heap.size+1+1),0,none⟩ (.int .i64 2)) ⟨(w.heap.size+1+1),1,none⟩ (.int .i64 (n+(j:Int)))) ⟨(w.heap.size+1+1),2,none⟩ (.int .i64 0)) (w.heap.size+1) 77 [.int .i64 2,.int .i64 (n+(j:Int)),.int .i64 0]):=((((((R2.out).far (p:=⟨(w.heap.size+1+1),0,none⟩) (by show w.heap.size+1≠(w.heap.size+1+1);omega) (.int .i64 2))).far (p:=⟨(w.heap.size+1+1),1,none⟩) (by show w.heap.size+1≠(w.heap.size+1+1);omega) (.int .i64 (n+(j:Int))))).far (p:=⟨(w.heap.size+1+1),2,none⟩) (by show w.heap.size+1≠(w.heap.size+1+1);omega) (.int .i64 0))
    have R3e:=hiD (R3.out.set3 (.int .i64 2) (.int .i64 (n+(j:Int))) (.int .i64 0))
    have BWe:Hid (Below w.heap.size w (World.setCell (World.setCell (World.setCell wQ ⟨(w.heap.size+1+1),0,none⟩ (.int .i64 2)) ⟨(w.heap.size+1+1),1,none⟩ (.int .i64 (n+(j:Int)))) ⟨(w.heap.size+1+1),2,none⟩ (.int .i64 0))):=((((((BW.out).setCell (p:=⟨(w.heap.size+1+1),0,none⟩) (by show _≤(w.heap.size+1+1);omega) (.int .i64 2))).setCell (p:=⟨(w.heap.size+1+1),1,none⟩) (by show _≤(w.heap.size+1+1);omega) (.int .i64 (n+(j:Int))))).setCell (p:=⟨(w.heap.size+1+1),2,none⟩) (by show _≤(w.heap.size+1+1);omega) (.int .i64 0))
    clear R1 R2 R3 BW r0 r1 r2 rl rf0 rf1 rf2
    revert R1e R2e R3e BWe
    generalize (World.setCell (World.setCell (World.setCell wQ ⟨(w.heap.size+1+1),0,none⟩ (.int .i64 2)) ⟨(w.heap.size+1+1),1,none⟩ (.int .i64 (n+(j:Int)))) ⟨(w.heap.size+1+1),2,none⟩ (.int .i64 0))=w9
    intro R1 R2 R3 BW
    refine hK.out _ _ (fun _=>?keep) (fun hHeld=>?_)
    case keep=>exact ⟨R1.out,R2.out,HCX.out _ BW.out⟩
    have hHeld:=hHeld rfl
    clear hK K
    try go_simp
    refine lPureW 11 ?va11 rfl (by rfl) ?ya11 ?ra11
    case ya11=>intro w' hSw;clear hSw;go_simp;try (with_reducible rfl)
    go_simp
    refine restL_done (by kernel_rfl) ?_ _
    go_wp2
    have d0:=R3.out.cell 0
    have d1:=R3.out.cell 1
    have d2:=R3.out.cell 2
    simp only [List.getElem?_cons_zero,List.getElem?_cons_succ] at d0 d1 d2
    refine bodyPost_ret (v:=.tuple #[.agg #[.int .i64 2,.int .i64 (n+(j:Int)),.int .i64 0],.int .i64 zz]) (by simp [results,Try.results99,go_sem,d0,d1,d2]) rfl ?_
    have HV:notF n gs (n+(j:Int))=(⟨2,n+(j:Int),0⟩,zz):=by unfold notF;simp [HP0.out (),HP1.out (),HP2.out (),HZZ.out ()]
    exact ⟨by rw [HV],BW.out⟩
  ·skip
   obtain ⟨c0,c1,c2,cl⟩:=(rowCells RC.out B_wa.out).cells3
   obtain ⟨g0,g1,g2,gl⟩:=(rowCells RG.out B_wa.out).cells3
   obtain ⟨z0,z1,z2,zl⟩:=(rowCells RZ.out B_wc.out).cells3
   obtain ⟨o0,o1,o2,ol⟩:=(rowCells RO.out B_wc.out).cells3
   obtain ⟨r0,r1,r2,rl⟩:=(rowCells RR.out B_wa.out).cells3
   have RRf:=hiD (rowCells RR.out B_wa.out)
   obtain ⟨rf0,rf1,rf2⟩:=RRf.out.froz3
   go_wp2
   have Z9:=RRf.out.set3 (.int .i64 0) (.int .i64 0) (.int .i64 0)
   have B9:=bSet3 B_w.out (w.heap.size+1+1) (by show _≤(w.heap.size+1+1);omega) (.int .i64 0) (.int .i64 0) (.int .i64 0)
   obtain ⟨d0,d1,d2,-⟩:=Z9.cells3
   clear Z9
   refine bodyPost_ret (v:=.tuple #[.agg #[.int .i64 0,.int .i64 0,.int .i64 0],.int .i64 (-1)]) (by simp [results,Try.results99,go_sem,d0,d1,d2]) rfl ?_
   have HV:=(show notF n gs x=(⟨0,0,0⟩,-1) from by unfold notF;simp [HP0.out (),HP1.out ()])
   exact ⟨by rw [HV],B9⟩
 ·skip
  obtain ⟨c0,c1,c2,cl⟩:=(rowCells RC.out B_wa.out).cells3
  obtain ⟨g0,g1,g2,gl⟩:=(rowCells RG.out B_wa.out).cells3
  obtain ⟨z0,z1,z2,zl⟩:=(rowCells RZ.out B_wc.out).cells3
  obtain ⟨o0,o1,o2,ol⟩:=(rowCells RO.out B_wc.out).cells3
  obtain ⟨r0,r1,r2,rl⟩:=(rowCells RR.out B_wa.out).cells3
  have RRf:=hiD (rowCells RR.out B_wa.out)
  obtain ⟨rf0,rf1,rf2⟩:=RRf.out.froz3
  go_wp2
  have Z9:=RRf.out.set3 (.int .i64 1) (.int .i64 0) (.int .i64 0)
  have B9:=bSet3 B_w.out (w.heap.size+1+1) (by show _≤(w.heap.size+1+1);omega) (.int .i64 1) (.int .i64 0) (.int .i64 0)
  obtain ⟨d0,d1,d2,-⟩:=Z9.cells3
  clear Z9
  refine bodyPost_ret (v:=.tuple #[.agg #[.int .i64 1,.int .i64 0,.int .i64 0],.int .i64 (-1)]) (by simp [results,Try.results99,go_sem,d0,d1,d2]) rfl ?_
  have HV:=(show notF n gs x=(⟨1,0,0⟩,-1) from by unfold notF;simp [HP0.out ()])
  exact ⟨by rw [HV],B9⟩
set_option maxRecDepth 100000 in
set_option maxHeartbeats 8000000 in
theorem rXor_any (n:Int) (gs:List Gt) (GA OA:Option Addr) (gn gc on oc:Nat) (x y:Int) (w:World) (hG:Rd w w.heap.size 3 GA gn (gatesCells gs)) (hn:0≤n∧n≤1000) (hg:gn≤20000) (hx:0≤x∧x < n+(gn:Int)) (hy:0≤y∧y < n+(gn:Int)):
 Calls Try.prog 109 #[.agg #[.int .i64 n,.slice GA gn gc,.slice OA on oc],.agg #[.int .i64 5,.int .i64 x,.int .i64 y]] w (fun e w'=>e=.returned (.tuple #[.agg #[.int .i64 (xorF n gs ⟨5,x,y⟩).1.op,.int .i64 (xorF n gs ⟨5,x,y⟩).1.a,.int .i64 (xorF n gs ⟨5,x,y⟩).1.b],.int .i64 (xorF n gs ⟨5,x,y⟩).2])∧Below w.heap.size w w'):=by
 have HG:=hiD hG
 have HBx:=hiD hx
 have HBy:=hiD hy
 clear hG hx hy
 obtain ⟨P0,HP0⟩:=naM (isW n gs (x) 0)
 obtain ⟨P1,HP1⟩:=naM (isW n gs (y) 0)
 obtain ⟨P3,HP3⟩:=naM (isW n gs (x) 1)
 obtain ⟨P4,HP4⟩:=naM (isW n gs (y) 1)
 obtain ⟨P2,HP2⟩:=naM (oppW n gs x y)
 go_enter Try.func109,Try.ntmps109
 go_upto_region 1 with fail
 obtain ⟨wa,hW9,RC,RG,RR,hgr9⟩:=laid3 w [.int .i64 n,.slice GA gn gc,.slice OA on oc] 37 [.int .i64 5,.int .i64 x,.int .i64 y] 77 [.int .i64 0,.int .i64 0,.int .i64 0] 77
 rewrite [hW9]
 clear hW9
 have B_w:=hiD hgr9
 clear hgr9
 have hwa:w.heap.size+1+1 < wa.heap.size:=RR.out.lt
 obtain ⟨g0,g1,g2,gl⟩:=RG.out.cells3
 go_quiet (fail)
 have B_w:=hiD (below_drewN B_w.out nq)
 have B_wa:Hid (Below wa.heap.size wa (wa.drewN nq)):=below_drewN (Below.refl _ _) nq
 clear g0 g1 g2 gl
 revert B_w B_wa
 generalize (wa.drewN nq)=wb
 intro B_w B_wa
 obtain ⟨c0,c1,c2,cl⟩:=(rowCells RC.out B_wa.out).cells3
 obtain ⟨g0,g1,g2,gl⟩:=(rowCells RG.out B_wa.out).cells3
 go_wp2_with fail
 have HC:=rIs_any n gs GA OA gn gc on oc (x) 0 wb ((HG.out.up B_w.out)) hn hg HBx.out.2 (by have:=HBx.out.1;omega)
 rw [HP0.out ()] at HC
 refine HC.mono ?_
 clear HC
 rintro e x4 ⟨rfl,hb⟩
 have B_w:=hiD (below_on2 B_w.out hb)
 have B_wa:=hiD (below_on2 B_wa.out hb)
 clear c0 c1 c2 cl g0 g1 g2 gl
 clear hb
 cases P0
 ·skip
  obtain ⟨c0,c1,c2,cl⟩:=(rowCells RC.out B_wa.out).cells3
  obtain ⟨g0,g1,g2,gl⟩:=(rowCells RG.out B_wa.out).cells3
  go_wp2_with fail
  have HC:=rIs_any n gs GA OA gn gc on oc (y) 0 x4 ((HG.out.up B_w.out)) hn hg HBy.out.2 (by have:=HBy.out.1;omega)
  rw [HP1.out ()] at HC
  refine HC.mono ?_
  clear HC
  rintro e x5 ⟨rfl,hb⟩
  have B_w:=hiD (below_on2 B_w.out hb)
  have B_wa:=hiD (below_on2 B_wa.out hb)
  clear c0 c1 c2 cl g0 g1 g2 gl
  clear hb
  cases P1
  ·skip
   by_cases hxy:x=y
   ·subst hxy
    obtain ⟨c0,c1,c2,cl⟩:=(rowCells RC.out B_wa.out).cells3
    obtain ⟨g0,g1,g2,gl⟩:=(rowCells RG.out B_wa.out).cells3
    obtain ⟨r0,r1,r2,rl⟩:=(rowCells RR.out B_wa.out).cells3
    have RRf:=hiD (rowCells RR.out B_wa.out)
    obtain ⟨rf0,rf1,rf2⟩:=RRf.out.froz3
    go_wp2
    have Z9:=RRf.out.set3 (.int .i64 0) (.int .i64 0) (.int .i64 0)
    have B9:=bSet3 B_w.out (w.heap.size+1+1) (by show _≤(w.heap.size+1+1);omega) (.int .i64 0) (.int .i64 0) (.int .i64 0)
    obtain ⟨d0,d1,d2,-⟩:=Z9.cells3
    clear Z9
    refine bodyPost_ret (v:=.tuple #[.agg #[.int .i64 0,.int .i64 0,.int .i64 0],.int .i64 (-1)]) (by simp [results,Try.results109,go_sem,d0,d1,d2]) rfl ?_
    have HV:=(show xorF n gs ⟨5,x,x⟩=(⟨0,0,0⟩,-1) from by unfold xorF;simp [HP0.out (),HP1.out ()])
    exact ⟨by rw [HV],B9⟩
   ·have he1:(x == y)=false:=by simpa using hxy
    have he2:decide (x=y)=false:=decide_eq_false hxy
    obtain ⟨c0,c1,c2,cl⟩:=(rowCells RC.out B_wa.out).cells3
    obtain ⟨g0,g1,g2,gl⟩:=(rowCells RG.out B_wa.out).cells3
    go_wp2_with fail
    have HC:=rOpp_any n gs GA OA gn gc on oc x y x5 ((HG.out.up B_w.out)) hn hg HBx.out.2 (by have:=HBx.out.1;omega) HBy.out.2 (by have:=HBy.out.1;omega)
    rw [HP2.out ()] at HC
    refine HC.mono ?_
    clear HC
    rintro e x6 ⟨rfl,hb⟩
    have B_w:=hiD (below_on2 B_w.out hb)
    have B_wa:=hiD (below_on2 B_wa.out hb)
    clear c0 c1 c2 cl g0 g1 g2 gl
    clear hb
    cases P2
    ·skip
     obtain ⟨c0,c1,c2,cl⟩:=(rowCells RC.out B_wa.out).cells3
     obtain ⟨g0,g1,g2,gl⟩:=(rowCells RG.out B_wa.out).cells3
     go_wp2_with fail
     have HC:=rIs_any n gs GA OA gn gc on oc (x) 1 x6 ((HG.out.up B_w.out)) hn hg HBx.out.2 (by have:=HBx.out.1;omega)
     rw [HP3.out ()] at HC
     refine HC.mono ?_
     clear HC
     rintro e x7 ⟨rfl,hb⟩
     have B_w:=hiD (below_on2 B_w.out hb)
     have B_wa:=hiD (below_on2 B_wa.out hb)
     clear c0 c1 c2 cl g0 g1 g2 gl
     clear hb
     cases P3
     ·skip
      obtain ⟨c0,c1,c2,cl⟩:=(rowCells RC.out B_wa.out).cells3
      obtain ⟨g0,g1,g2,gl⟩:=(rowCells RG.out B_wa.out).cells3
      go_wp2_with fail
      have HC:=rIs_any n gs GA OA gn gc on oc (y) 1 x7 ((HG.out.up B_w.out)) hn hg HBy.out.2 (by have:=HBy.out.1;omega)
      rw [HP4.out ()] at HC
      refine HC.mono ?_
      clear HC
      rintro e x9 ⟨rfl,hb⟩
      have B_w:=hiD (below_on2 B_w.out hb)
      have B_wa:=hiD (below_on2 B_wa.out hb)
      clear c0 c1 c2 cl g0 g1 g2 gl
      clear hb
      cases P4
      ·skip
       obtain ⟨c0,c1,c2,cl⟩:=(rowCells RC.out B_wa.out).cells3
       obtain ⟨g0,g1,g2,gl⟩:=(rowCells RG.out B_wa.out).cells3
       obtain ⟨r0,r1,r2,rl⟩:=(rowCells RR.out B_wa.out).cells3
       have RRf:=hiD (rowCells RR.out B_wa.out)
       obtain ⟨rf0,rf1,rf2⟩:=RRf.out.froz3
       go_wp2
       have Z9:=RRf.out.set3 (.int .i64 5) (.int .i64 x) (.int .i64 y)
       have B9:=bSet3 B_w.out (w.heap.size+1+1) (by show _≤(w.heap.size+1+1);omega) (.int .i64 5) (.int .i64 x) (.int .i64 y)
       obtain ⟨d0,d1,d2,-⟩:=Z9.cells3
       clear Z9
       refine bodyPost_ret (v:=.tuple #[.agg #[.int .i64 5,.int .i64 x,.int .i64 y],.int .i64 (-1)]) (by simp [results,Try.results109,go_sem,d0,d1,d2]) rfl ?_
       have HV:=(show xorF n gs ⟨5,x,y⟩=(⟨5,x,y⟩,-1) from by unfold xorF;simp [HP0.out (),HP1.out (),HP2.out (),HP3.out (),HP4.out (),hxy])
       exact ⟨by rw [HV],B9⟩
      ·skip
       obtain ⟨p,hp⟩:∃ p,notF n gs x=p:=⟨_,rfl⟩
       have HP:=hiU hp
       clear hp
       obtain ⟨⟨po,pa,pb⟩,pz⟩:=p
       obtain ⟨c0,c1,c2,cl⟩:=(rowCells RC.out B_wa.out).cells3
       obtain ⟨g0,g1,g2,gl⟩:=(rowCells RG.out B_wa.out).cells3
       go_wp2_with fail
       have HC:=rNot_any n gs GA OA gn gc on oc x x9 ((HG.out.up B_w.out)) hn hg HBx.out
       rw [HP.out ()] at HC
       refine HC.mono ?_
       clear HC
       rintro e x10 ⟨rfl,hb⟩
       have B_w:=hiD (below_on2 B_w.out hb)
       have B_wa:=hiD (below_on2 B_wa.out hb)
       clear c0 c1 c2 cl g0 g1 g2 gl
       clear hb
       obtain ⟨c0,c1,c2,cl⟩:=(rowCells RC.out B_wa.out).cells3
       obtain ⟨g0,g1,g2,gl⟩:=(rowCells RG.out B_wa.out).cells3
       obtain ⟨r0,r1,r2,rl⟩:=(rowCells RR.out B_wa.out).cells3
       have RRf:=hiD (rowCells RR.out B_wa.out)
       obtain ⟨rf0,rf1,rf2⟩:=RRf.out.froz3
       go_wp2
       have Z9:=RRf.out.set3 (.int .i64 po) (.int .i64 pa) (.int .i64 pb)
       have B9:=bSet3 B_w.out (w.heap.size+1+1) (by show _≤(w.heap.size+1+1);omega) (.int .i64 po) (.int .i64 pa) (.int .i64 pb)
       obtain ⟨d0,d1,d2,-⟩:=Z9.cells3
       clear Z9
       refine bodyPost_ret (v:=.tuple #[.agg #[.int .i64 po,.int .i64 pa,.int .i64 pb],.int .i64 (pz)]) (by simp [results,Try.results109,go_sem,d0,d1,d2]) rfl ?_
       have HV:=(show xorF n gs ⟨5,x,y⟩=(⟨po,pa,pb⟩,pz) from by unfold xorF;simp [HP0.out (),HP1.out (),HP2.out (),HP3.out (),HP4.out (),HP.out (),hxy])
       exact ⟨by rw [HV],B9⟩
     ·skip
      obtain ⟨p,hp⟩:∃ p,notF n gs y=p:=⟨_,rfl⟩
      have HP:=hiU hp
      clear hp
      obtain ⟨⟨po,pa,pb⟩,pz⟩:=p
      obtain ⟨c0,c1,c2,cl⟩:=(rowCells RC.out B_wa.out).cells3
      obtain ⟨g0,g1,g2,gl⟩:=(rowCells RG.out B_wa.out).cells3
      go_wp2_with fail
      have HC:=rNot_any n gs GA OA gn gc on oc y x7 ((HG.out.up B_w.out)) hn hg HBy.out
      rw [HP.out ()] at HC
      refine HC.mono ?_
      clear HC
      rintro e x8 ⟨rfl,hb⟩
      have B_w:=hiD (below_on2 B_w.out hb)
      have B_wa:=hiD (below_on2 B_wa.out hb)
      clear c0 c1 c2 cl g0 g1 g2 gl
      clear hb
      obtain ⟨c0,c1,c2,cl⟩:=(rowCells RC.out B_wa.out).cells3
      obtain ⟨g0,g1,g2,gl⟩:=(rowCells RG.out B_wa.out).cells3
      obtain ⟨r0,r1,r2,rl⟩:=(rowCells RR.out B_wa.out).cells3
      have RRf:=hiD (rowCells RR.out B_wa.out)
      obtain ⟨rf0,rf1,rf2⟩:=RRf.out.froz3
      go_wp2
      have Z9:=RRf.out.set3 (.int .i64 po) (.int .i64 pa) (.int .i64 pb)
      have B9:=bSet3 B_w.out (w.heap.size+1+1) (by show _≤(w.heap.size+1+1);omega) (.int .i64 po) (.int .i64 pa) (.int .i64 pb)
      obtain ⟨d0,d1,d2,-⟩:=Z9.cells3
      clear Z9
      refine bodyPost_ret (v:=.tuple #[.agg #[.int .i64 po,.int .i64 pa,.int .i64 pb],.int .i64 (pz)]) (by simp [results,Try.results109,go_sem,d0,d1,d2]) rfl ?_
      have HV:=(show xorF n gs ⟨5,x,y⟩=(⟨po,pa,pb⟩,pz) from by unfold xorF;simp [HP0.out (),HP1.out (),HP2.out (),HP3.out (),HP.out (),hxy])
      exact ⟨by rw [HV],B9⟩
    ·skip
     obtain ⟨c0,c1,c2,cl⟩:=(rowCells RC.out B_wa.out).cells3
     obtain ⟨g0,g1,g2,gl⟩:=(rowCells RG.out B_wa.out).cells3
     obtain ⟨r0,r1,r2,rl⟩:=(rowCells RR.out B_wa.out).cells3
     have RRf:=hiD (rowCells RR.out B_wa.out)
     obtain ⟨rf0,rf1,rf2⟩:=RRf.out.froz3
     go_wp2
     have Z9:=RRf.out.set3 (.int .i64 1) (.int .i64 0) (.int .i64 0)
     have B9:=bSet3 B_w.out (w.heap.size+1+1) (by show _≤(w.heap.size+1+1);omega) (.int .i64 1) (.int .i64 0) (.int .i64 0)
     obtain ⟨d0,d1,d2,-⟩:=Z9.cells3
     clear Z9
     refine bodyPost_ret (v:=.tuple #[.agg #[.int .i64 1,.int .i64 0,.int .i64 0],.int .i64 (-1)]) (by simp [results,Try.results109,go_sem,d0,d1,d2]) rfl ?_
     have HV:=(show xorF n gs ⟨5,x,y⟩=(⟨1,0,0⟩,-1) from by unfold xorF;simp [HP0.out (),HP1.out (),HP2.out (),hxy])
     exact ⟨by rw [HV],B9⟩
  ·skip
   obtain ⟨c0,c1,c2,cl⟩:=(rowCells RC.out B_wa.out).cells3
   obtain ⟨g0,g1,g2,gl⟩:=(rowCells RG.out B_wa.out).cells3
   obtain ⟨r0,r1,r2,rl⟩:=(rowCells RR.out B_wa.out).cells3
   have RRf:=hiD (rowCells RR.out B_wa.out)
   obtain ⟨rf0,rf1,rf2⟩:=RRf.out.froz3
   go_wp2
   have Z9:=RRf.out.set3 (.int .i64 5) (.int .i64 x) (.int .i64 y)
   have B9:=bSet3 B_w.out (w.heap.size+1+1) (by show _≤(w.heap.size+1+1);omega) (.int .i64 5) (.int .i64 x) (.int .i64 y)
   obtain ⟨d0,d1,d2,-⟩:=Z9.cells3
   clear Z9
   refine bodyPost_ret (v:=.tuple #[.agg #[.int .i64 5,.int .i64 x,.int .i64 y],.int .i64 (x)]) (by simp [results,Try.results109,go_sem,d0,d1,d2]) rfl ?_
   have HV:=(show xorF n gs ⟨5,x,y⟩=(⟨5,x,y⟩,x) from by unfold xorF;simp [HP0.out (),HP1.out ()])
   exact ⟨by rw [HV],B9⟩
 ·skip
  obtain ⟨c0,c1,c2,cl⟩:=(rowCells RC.out B_wa.out).cells3
  obtain ⟨g0,g1,g2,gl⟩:=(rowCells RG.out B_wa.out).cells3
  obtain ⟨r0,r1,r2,rl⟩:=(rowCells RR.out B_wa.out).cells3
  have RRf:=hiD (rowCells RR.out B_wa.out)
  obtain ⟨rf0,rf1,rf2⟩:=RRf.out.froz3
  go_wp2
  have Z9:=RRf.out.set3 (.int .i64 5) (.int .i64 x) (.int .i64 y)
  have B9:=bSet3 B_w.out (w.heap.size+1+1) (by show _≤(w.heap.size+1+1);omega) (.int .i64 5) (.int .i64 x) (.int .i64 y)
  obtain ⟨d0,d1,d2,-⟩:=Z9.cells3
  clear Z9
  refine bodyPost_ret (v:=.tuple #[.agg #[.int .i64 5,.int .i64 x,.int .i64 y],.int .i64 (y)]) (by simp [results,Try.results109,go_sem,d0,d1,d2]) rfl ?_
  have HV:=(show xorF n gs ⟨5,x,y⟩=(⟨5,x,y⟩,y) from by unfold xorF;simp [HP0.out ()])
  exact ⟨by rw [HV],B9⟩
set_option maxRecDepth 100000 in
set_option maxHeartbeats 8000000 in
theorem rAnd_any (n:Int) (gs:List Gt) (GA OA:Option Addr) (gn gc on oc:Nat) (x y:Int) (w:World) (hG:Rd w w.heap.size 3 GA gn (gatesCells gs)) (hn:0≤n∧n≤1000) (hg:gn≤20000) (hx:0≤x∧x < n+(gn:Int)) (hy:0≤y∧y < n+(gn:Int)):
 Calls Try.prog 99 #[.agg #[.int .i64 n,.slice GA gn gc,.slice OA on oc],.agg #[.int .i64 3,.int .i64 x,.int .i64 y]] w (fun e w'=>e=.returned (.tuple #[.agg #[.int .i64 (eitherF n gs ⟨3,x,y⟩ 0 1).1.op,.int .i64 (eitherF n gs ⟨3,x,y⟩ 0 1).1.a,.int .i64 (eitherF n gs ⟨3,x,y⟩ 0 1).1.b],.int .i64 (eitherF n gs ⟨3,x,y⟩ 0 1).2])∧Below w.heap.size w w'):=by
 have HG:=hiD hG
 have HBx:=hiD hx
 have HBy:=hiD hy
 clear hG hx hy
 obtain ⟨P0,HP0⟩:=naM (isW n gs (x) 0)
 obtain ⟨P1,HP1⟩:=naM (isW n gs (y) 0)
 obtain ⟨P2,HP2⟩:=naM (isW n gs (x) 1)
 obtain ⟨P3,HP3⟩:=naM (isW n gs (y) 1)
 obtain ⟨P4,HP4⟩:=naM (oppW n gs x y)
 go_enter Try.func99,Try.ntmps99
 go_upto_region 1 with fail
 obtain ⟨wa,hW9,RC,RG,RR,hgr9⟩:=laid3 w [.int .i64 n,.slice GA gn gc,.slice OA on oc] 37 [.int .i64 3,.int .i64 x,.int .i64 y] 77 [.int .i64 0,.int .i64 0,.int .i64 0] 77
 rewrite [hW9]
 clear hW9
 have B_w:=hiD hgr9
 clear hgr9
 have hwa:w.heap.size+1+1 < wa.heap.size:=RR.out.lt
 obtain ⟨g0,g1,g2,gl⟩:=RG.out.cells3
 go_quiet (fail)
 have B_w:=hiD (below_drewN B_w.out nq)
 have B_wa:Hid (Below wa.heap.size wa (wa.drewN nq)):=below_drewN (Below.refl _ _) nq
 clear g0 g1 g2 gl
 revert B_w B_wa
 generalize (wa.drewN nq)=wb
 intro B_w B_wa
 go_upto_region 3 with fail
 obtain ⟨wc,hW9,RZ,RO,hgr9⟩:=laid2 wb [.int .i64 0,.int .i64 0,.int .i64 0] 77 [.int .i64 1,.int .i64 0,.int .i64 0] 77
 rewrite [hW9]
 clear hW9
 have B_w:=hiD (below_on2 B_w.out hgr9)
 have B_wa:=hiD (below_on2 B_wa.out hgr9)
 clear hgr9
 obtain ⟨c0,c1,c2,cl⟩:=(rowCells RC.out B_wa.out).cells3
 obtain ⟨g0,g1,g2,gl⟩:=(rowCells RG.out B_wa.out).cells3
 obtain ⟨z0,z1,z2,zl⟩:=RZ.out.cells3
 obtain ⟨o0,o1,o2,ol⟩:=RO.out.cells3
 go_wp2_with fail
 have HC:=rIs_any n gs GA OA gn gc on oc (x) 0 wc ((HG.out.up B_w.out)) hn hg HBx.out.2 (by have:=HBx.out.1;omega)
 rw [HP0.out ()] at HC
 refine HC.mono ?_
 clear HC
 rintro e x11 ⟨rfl,hb⟩
 have B_w:=hiD (below_on2 B_w.out hb)
 have B_wa:=hiD (below_on2 B_wa.out hb)
 have B_wc:=hiD hb
 clear c0 c1 c2 cl g0 g1 g2 gl z0 z1 z2 zl o0 o1 o2 ol
 clear hb
 cases P0
 ·skip
  obtain ⟨c0,c1,c2,cl⟩:=(rowCells RC.out B_wa.out).cells3
  obtain ⟨g0,g1,g2,gl⟩:=(rowCells RG.out B_wa.out).cells3
  obtain ⟨z0,z1,z2,zl⟩:=(rowCells RZ.out B_wc.out).cells3
  obtain ⟨o0,o1,o2,ol⟩:=(rowCells RO.out B_wc.out).cells3
  go_wp2_with fail
  have HC:=rIs_any n gs GA OA gn gc on oc (y) 0 x11 ((HG.out.up B_w.out)) hn hg HBy.out.2 (by have:=HBy.out.1;omega)
  rw [HP1.out ()] at HC
  refine HC.mono ?_
  clear HC
  rintro e x12 ⟨rfl,hb⟩
  have B_w:=hiD (below_on2 B_w.out hb)
  have B_wa:=hiD (below_on2 B_wa.out hb)
  have B_wc:=hiD (below_on2 B_wc.out hb)
  clear c0 c1 c2 cl g0 g1 g2 gl z0 z1 z2 zl o0 o1 o2 ol
  clear hb
  cases P1
  ·skip
   obtain ⟨c0,c1,c2,cl⟩:=(rowCells RC.out B_wa.out).cells3
   obtain ⟨g0,g1,g2,gl⟩:=(rowCells RG.out B_wa.out).cells3
   obtain ⟨z0,z1,z2,zl⟩:=(rowCells RZ.out B_wc.out).cells3
   obtain ⟨o0,o1,o2,ol⟩:=(rowCells RO.out B_wc.out).cells3
   go_wp2_with fail
   have HC:=rIs_any n gs GA OA gn gc on oc (x) 1 x12 ((HG.out.up B_w.out)) hn hg HBx.out.2 (by have:=HBx.out.1;omega)
   rw [HP2.out ()] at HC
   refine HC.mono ?_
   clear HC
   rintro e x13 ⟨rfl,hb⟩
   have B_w:=hiD (below_on2 B_w.out hb)
   have B_wa:=hiD (below_on2 B_wa.out hb)
   have B_wc:=hiD (below_on2 B_wc.out hb)
   clear c0 c1 c2 cl g0 g1 g2 gl z0 z1 z2 zl o0 o1 o2 ol
   clear hb
   cases P2
   ·skip
    obtain ⟨c0,c1,c2,cl⟩:=(rowCells RC.out B_wa.out).cells3
    obtain ⟨g0,g1,g2,gl⟩:=(rowCells RG.out B_wa.out).cells3
    obtain ⟨z0,z1,z2,zl⟩:=(rowCells RZ.out B_wc.out).cells3
    obtain ⟨o0,o1,o2,ol⟩:=(rowCells RO.out B_wc.out).cells3
    go_wp2_with fail
    have HC:=rIs_any n gs GA OA gn gc on oc (y) 1 x13 ((HG.out.up B_w.out)) hn hg HBy.out.2 (by have:=HBy.out.1;omega)
    rw [HP3.out ()] at HC
    refine HC.mono ?_
    clear HC
    rintro e x14 ⟨rfl,hb⟩
    have B_w:=hiD (below_on2 B_w.out hb)
    have B_wa:=hiD (below_on2 B_wa.out hb)
    have B_wc:=hiD (below_on2 B_wc.out hb)
    clear c0 c1 c2 cl g0 g1 g2 gl z0 z1 z2 zl o0 o1 o2 ol
    clear hb
    cases P3
    ·skip
     by_cases hxy:x=y
     ·subst hxy
      obtain ⟨c0,c1,c2,cl⟩:=(rowCells RC.out B_wa.out).cells3
      obtain ⟨g0,g1,g2,gl⟩:=(rowCells RG.out B_wa.out).cells3
      obtain ⟨z0,z1,z2,zl⟩:=(rowCells RZ.out B_wc.out).cells3
      obtain ⟨o0,o1,o2,ol⟩:=(rowCells RO.out B_wc.out).cells3
      obtain ⟨r0,r1,r2,rl⟩:=(rowCells RR.out B_wa.out).cells3
      have RRf:=hiD (rowCells RR.out B_wa.out)
      obtain ⟨rf0,rf1,rf2⟩:=RRf.out.froz3
      go_wp2
      have Z9:=RRf.out.set3 (.int .i64 3) (.int .i64 x) (.int .i64 x)
      have B9:=bSet3 B_w.out (w.heap.size+1+1) (by show _≤(w.heap.size+1+1);omega) (.int .i64 3) (.int .i64 x) (.int .i64 x)
      obtain ⟨d0,d1,d2,-⟩:=Z9.cells3
      clear Z9
      refine bodyPost_ret (v:=.tuple #[.agg #[.int .i64 3,.int .i64 x,.int .i64 x],.int .i64 (x)]) (by simp [results,Try.results99,go_sem,d0,d1,d2]) rfl ?_
      have HV:=(show eitherF n gs ⟨3,x,x⟩ 0 1=(⟨3,x,x⟩,x) from by unfold eitherF;simp [HP0.out (),HP1.out (),HP2.out (),HP3.out ()])
      exact ⟨by rw [HV],B9⟩
     ·have he1:(x == y)=false:=by simpa using hxy
      have he2:decide (x=y)=false:=decide_eq_false hxy
      obtain ⟨c0,c1,c2,cl⟩:=(rowCells RC.out B_wa.out).cells3
      obtain ⟨g0,g1,g2,gl⟩:=(rowCells RG.out B_wa.out).cells3
      obtain ⟨z0,z1,z2,zl⟩:=(rowCells RZ.out B_wc.out).cells3
      obtain ⟨o0,o1,o2,ol⟩:=(rowCells RO.out B_wc.out).cells3
      go_wp2_with fail
      have HC:=rOpp_any n gs GA OA gn gc on oc x y x14 ((HG.out.up B_w.out)) hn hg HBx.out.2 (by have:=HBx.out.1;omega) HBy.out.2 (by have:=HBy.out.1;omega)
      rw [HP4.out ()] at HC
      refine HC.mono ?_
      clear HC
      rintro e x15 ⟨rfl,hb⟩
      have B_w:=hiD (below_on2 B_w.out hb)
      have B_wa:=hiD (below_on2 B_wa.out hb)
      have B_wc:=hiD (below_on2 B_wc.out hb)
      clear c0 c1 c2 cl g0 g1 g2 gl z0 z1 z2 zl o0 o1 o2 ol
      clear hb
      cases P4
      ·skip
       obtain ⟨c0,c1,c2,cl⟩:=(rowCells RC.out B_wa.out).cells3
       obtain ⟨g0,g1,g2,gl⟩:=(rowCells RG.out B_wa.out).cells3
       obtain ⟨z0,z1,z2,zl⟩:=(rowCells RZ.out B_wc.out).cells3
       obtain ⟨o0,o1,o2,ol⟩:=(rowCells RO.out B_wc.out).cells3
       obtain ⟨r0,r1,r2,rl⟩:=(rowCells RR.out B_wa.out).cells3
       have RRf:=hiD (rowCells RR.out B_wa.out)
       obtain ⟨rf0,rf1,rf2⟩:=RRf.out.froz3
       go_wp2
       have Z9:=RRf.out.set3 (.int .i64 3) (.int .i64 x) (.int .i64 y)
       have B9:=bSet3 B_w.out (w.heap.size+1+1) (by show _≤(w.heap.size+1+1);omega) (.int .i64 3) (.int .i64 x) (.int .i64 y)
       obtain ⟨d0,d1,d2,-⟩:=Z9.cells3
       clear Z9
       refine bodyPost_ret (v:=.tuple #[.agg #[.int .i64 3,.int .i64 x,.int .i64 y],.int .i64 (-1)]) (by simp [results,Try.results99,go_sem,d0,d1,d2]) rfl ?_
       have HV:=(show eitherF n gs ⟨3,x,y⟩ 0 1=(⟨3,x,y⟩,-1) from by unfold eitherF;simp [HP0.out (),HP1.out (),HP2.out (),HP3.out (),HP4.out (),hxy])
       exact ⟨by rw [HV],B9⟩
      ·skip
       obtain ⟨c0,c1,c2,cl⟩:=(rowCells RC.out B_wa.out).cells3
       obtain ⟨g0,g1,g2,gl⟩:=(rowCells RG.out B_wa.out).cells3
       obtain ⟨z0,z1,z2,zl⟩:=(rowCells RZ.out B_wc.out).cells3
       obtain ⟨o0,o1,o2,ol⟩:=(rowCells RO.out B_wc.out).cells3
       obtain ⟨r0,r1,r2,rl⟩:=(rowCells RR.out B_wa.out).cells3
       have RRf:=hiD (rowCells RR.out B_wa.out)
       obtain ⟨rf0,rf1,rf2⟩:=RRf.out.froz3
       go_wp2
       have Z9:=RRf.out.set3 (.int .i64 0) (.int .i64 0) (.int .i64 0)
       have B9:=bSet3 B_w.out (w.heap.size+1+1) (by show _≤(w.heap.size+1+1);omega) (.int .i64 0) (.int .i64 0) (.int .i64 0)
       obtain ⟨d0,d1,d2,-⟩:=Z9.cells3
       clear Z9
       refine bodyPost_ret (v:=.tuple #[.agg #[.int .i64 0,.int .i64 0,.int .i64 0],.int .i64 (-1)]) (by simp [results,Try.results99,go_sem,d0,d1,d2]) rfl ?_
       have HV:=(show eitherF n gs ⟨3,x,y⟩ 0 1=(⟨0,0,0⟩,-1) from by unfold eitherF;simp [HP0.out (),HP1.out (),HP2.out (),HP3.out (),HP4.out (),hxy])
       exact ⟨by rw [HV],B9⟩
    ·skip
     obtain ⟨c0,c1,c2,cl⟩:=(rowCells RC.out B_wa.out).cells3
     obtain ⟨g0,g1,g2,gl⟩:=(rowCells RG.out B_wa.out).cells3
     obtain ⟨z0,z1,z2,zl⟩:=(rowCells RZ.out B_wc.out).cells3
     obtain ⟨o0,o1,o2,ol⟩:=(rowCells RO.out B_wc.out).cells3
     obtain ⟨r0,r1,r2,rl⟩:=(rowCells RR.out B_wa.out).cells3
     have RRf:=hiD (rowCells RR.out B_wa.out)
     obtain ⟨rf0,rf1,rf2⟩:=RRf.out.froz3
     go_wp2
     have Z9:=RRf.out.set3 (.int .i64 3) (.int .i64 x) (.int .i64 y)
     have B9:=bSet3 B_w.out (w.heap.size+1+1) (by show _≤(w.heap.size+1+1);omega) (.int .i64 3) (.int .i64 x) (.int .i64 y)
     obtain ⟨d0,d1,d2,-⟩:=Z9.cells3
     clear Z9
     refine bodyPost_ret (v:=.tuple #[.agg #[.int .i64 3,.int .i64 x,.int .i64 y],.int .i64 (x)]) (by simp [results,Try.results99,go_sem,d0,d1,d2]) rfl ?_
     have HV:=(show eitherF n gs ⟨3,x,y⟩ 0 1=(⟨3,x,y⟩,x) from by unfold eitherF;simp [HP0.out (),HP1.out (),HP2.out (),HP3.out ()])
     exact ⟨by rw [HV],B9⟩
   ·skip
    obtain ⟨c0,c1,c2,cl⟩:=(rowCells RC.out B_wa.out).cells3
    obtain ⟨g0,g1,g2,gl⟩:=(rowCells RG.out B_wa.out).cells3
    obtain ⟨z0,z1,z2,zl⟩:=(rowCells RZ.out B_wc.out).cells3
    obtain ⟨o0,o1,o2,ol⟩:=(rowCells RO.out B_wc.out).cells3
    obtain ⟨r0,r1,r2,rl⟩:=(rowCells RR.out B_wa.out).cells3
    have RRf:=hiD (rowCells RR.out B_wa.out)
    obtain ⟨rf0,rf1,rf2⟩:=RRf.out.froz3
    go_wp2
    have Z9:=RRf.out.set3 (.int .i64 3) (.int .i64 x) (.int .i64 y)
    have B9:=bSet3 B_w.out (w.heap.size+1+1) (by show _≤(w.heap.size+1+1);omega) (.int .i64 3) (.int .i64 x) (.int .i64 y)
    obtain ⟨d0,d1,d2,-⟩:=Z9.cells3
    clear Z9
    refine bodyPost_ret (v:=.tuple #[.agg #[.int .i64 3,.int .i64 x,.int .i64 y],.int .i64 (y)]) (by simp [results,Try.results99,go_sem,d0,d1,d2]) rfl ?_
    have HV:=(show eitherF n gs ⟨3,x,y⟩ 0 1=(⟨3,x,y⟩,y) from by unfold eitherF;simp [HP0.out (),HP1.out (),HP2.out ()])
    exact ⟨by rw [HV],B9⟩
  ·skip
   obtain ⟨c0,c1,c2,cl⟩:=(rowCells RC.out B_wa.out).cells3
   obtain ⟨g0,g1,g2,gl⟩:=(rowCells RG.out B_wa.out).cells3
   obtain ⟨z0,z1,z2,zl⟩:=(rowCells RZ.out B_wc.out).cells3
   obtain ⟨o0,o1,o2,ol⟩:=(rowCells RO.out B_wc.out).cells3
   obtain ⟨r0,r1,r2,rl⟩:=(rowCells RR.out B_wa.out).cells3
   have RRf:=hiD (rowCells RR.out B_wa.out)
   obtain ⟨rf0,rf1,rf2⟩:=RRf.out.froz3
   go_wp2
   have Z9:=RRf.out.set3 (.int .i64 0) (.int .i64 0) (.int .i64 0)
   have B9:=bSet3 B_w.out (w.heap.size+1+1) (by show _≤(w.heap.size+1+1);omega) (.int .i64 0) (.int .i64 0) (.int .i64 0)
   obtain ⟨d0,d1,d2,-⟩:=Z9.cells3
   clear Z9
   refine bodyPost_ret (v:=.tuple #[.agg #[.int .i64 0,.int .i64 0,.int .i64 0],.int .i64 (-1)]) (by simp [results,Try.results99,go_sem,d0,d1,d2]) rfl ?_
   have HV:=(show eitherF n gs ⟨3,x,y⟩ 0 1=(⟨0,0,0⟩,-1) from by unfold eitherF;simp [HP0.out (),HP1.out ()])
   exact ⟨by rw [HV],B9⟩
 ·skip
  obtain ⟨c0,c1,c2,cl⟩:=(rowCells RC.out B_wa.out).cells3
  obtain ⟨g0,g1,g2,gl⟩:=(rowCells RG.out B_wa.out).cells3
  obtain ⟨z0,z1,z2,zl⟩:=(rowCells RZ.out B_wc.out).cells3
  obtain ⟨o0,o1,o2,ol⟩:=(rowCells RO.out B_wc.out).cells3
  obtain ⟨r0,r1,r2,rl⟩:=(rowCells RR.out B_wa.out).cells3
  have RRf:=hiD (rowCells RR.out B_wa.out)
  obtain ⟨rf0,rf1,rf2⟩:=RRf.out.froz3
  go_wp2
  have Z9:=RRf.out.set3 (.int .i64 0) (.int .i64 0) (.int .i64 0)
  have B9:=bSet3 B_w.out (w.heap.size+1+1) (by show _≤(w.heap.size+1+1);omega) (.int .i64 0) (.int .i64 0) (.int .i64 0)
  obtain ⟨d0,d1,d2,-⟩:=Z9.cells3
  clear Z9
  refine bodyPost_ret (v:=.tuple #[.agg #[.int .i64 0,.int .i64 0,.int .i64 0],.int .i64 (-1)]) (by simp [results,Try.results99,go_sem,d0,d1,d2]) rfl ?_
  have HV:=(show eitherF n gs ⟨3,x,y⟩ 0 1=(⟨0,0,0⟩,-1) from by unfold eitherF;simp [HP0.out ()])
  exact ⟨by rw [HV],B9⟩
set_option maxRecDepth 100000 in
set_option maxHeartbeats 8000000 in
theorem rOr_any (n:Int) (gs:List Gt) (GA OA:Option Addr) (gn gc on oc:Nat) (x y:Int) (w:World) (hG:Rd w w.heap.size 3 GA gn (gatesCells gs)) (hn:0≤n∧n≤1000) (hg:gn≤20000) (hx:0≤x∧x < n+(gn:Int)) (hy:0≤y∧y < n+(gn:Int)):
 Calls Try.prog 99 #[.agg #[.int .i64 n,.slice GA gn gc,.slice OA on oc],.agg #[.int .i64 4,.int .i64 x,.int .i64 y]] w (fun e w'=>e=.returned (.tuple #[.agg #[.int .i64 (eitherF n gs ⟨4,x,y⟩ 1 0).1.op,.int .i64 (eitherF n gs ⟨4,x,y⟩ 1 0).1.a,.int .i64 (eitherF n gs ⟨4,x,y⟩ 1 0).1.b],.int .i64 (eitherF n gs ⟨4,x,y⟩ 1 0).2])∧Below w.heap.size w w'):=by
 have HG:=hiD hG
 have HBx:=hiD hx
 have HBy:=hiD hy
 clear hG hx hy
 obtain ⟨P0,HP0⟩:=naM (isW n gs (x) 1)
 obtain ⟨P1,HP1⟩:=naM (isW n gs (y) 1)
 obtain ⟨P2,HP2⟩:=naM (isW n gs (x) 0)
 obtain ⟨P3,HP3⟩:=naM (isW n gs (y) 0)
 obtain ⟨P4,HP4⟩:=naM (oppW n gs x y)
 go_enter Try.func99,Try.ntmps99
 go_upto_region 1 with fail
 obtain ⟨wa,hW9,RC,RG,RR,hgr9⟩:=laid3 w [.int .i64 n,.slice GA gn gc,.slice OA on oc] 37 [.int .i64 4,.int .i64 x,.int .i64 y] 77 [.int .i64 0,.int .i64 0,.int .i64 0] 77
 rewrite [hW9]
 clear hW9
 have B_w:=hiD hgr9
 clear hgr9
 have hwa:w.heap.size+1+1 < wa.heap.size:=RR.out.lt
 obtain ⟨g0,g1,g2,gl⟩:=RG.out.cells3
 go_quiet (fail)
 have B_w:=hiD (below_drewN B_w.out nq)
 have B_wa:Hid (Below wa.heap.size wa (wa.drewN nq)):=below_drewN (Below.refl _ _) nq
 clear g0 g1 g2 gl
 revert B_w B_wa
 generalize (wa.drewN nq)=wb
 intro B_w B_wa
 go_upto_region 3 with fail
 obtain ⟨wc,hW9,RZ,RO,hgr9⟩:=laid2 wb [.int .i64 0,.int .i64 0,.int .i64 0] 77 [.int .i64 1,.int .i64 0,.int .i64 0] 77
 rewrite [hW9]
 clear hW9
 have B_w:=hiD (below_on2 B_w.out hgr9)
 have B_wa:=hiD (below_on2 B_wa.out hgr9)
 clear hgr9
 obtain ⟨c0,c1,c2,cl⟩:=(rowCells RC.out B_wa.out).cells3
 obtain ⟨g0,g1,g2,gl⟩:=(rowCells RG.out B_wa.out).cells3
 obtain ⟨z0,z1,z2,zl⟩:=RZ.out.cells3
 obtain ⟨o0,o1,o2,ol⟩:=RO.out.cells3
 go_wp2_with fail
 have HC:=rIs_any n gs GA OA gn gc on oc (x) 1 wc ((HG.out.up B_w.out)) hn hg HBx.out.2 (by have:=HBx.out.1;omega)
 rw [HP0.out ()] at HC
 refine HC.mono ?_
 clear HC
 rintro e x16 ⟨rfl,hb⟩
 have B_w:=hiD (below_on2 B_w.out hb)
 have B_wa:=hiD (below_on2 B_wa.out hb)
 have B_wc:=hiD hb
 clear c0 c1 c2 cl g0 g1 g2 gl z0 z1 z2 zl o0 o1 o2 ol
 clear hb
 cases P0
 ·skip
  obtain ⟨c0,c1,c2,cl⟩:=(rowCells RC.out B_wa.out).cells3
  obtain ⟨g0,g1,g2,gl⟩:=(rowCells RG.out B_wa.out).cells3
  obtain ⟨z0,z1,z2,zl⟩:=(rowCells RZ.out B_wc.out).cells3
  obtain ⟨o0,o1,o2,ol⟩:=(rowCells RO.out B_wc.out).cells3
  go_wp2_with fail
  have HC:=rIs_any n gs GA OA gn gc on oc (y) 1 x16 ((HG.out.up B_w.out)) hn hg HBy.out.2 (by have:=HBy.out.1;omega)
  rw [HP1.out ()] at HC
  refine HC.mono ?_
  clear HC
  rintro e x17 ⟨rfl,hb⟩
  have B_w:=hiD (below_on2 B_w.out hb)
  have B_wa:=hiD (below_on2 B_wa.out hb)
  have B_wc:=hiD (below_on2 B_wc.out hb)
  clear c0 c1 c2 cl g0 g1 g2 gl z0 z1 z2 zl o0 o1 o2 ol
  clear hb
  cases P1
  ·skip
   obtain ⟨c0,c1,c2,cl⟩:=(rowCells RC.out B_wa.out).cells3
   obtain ⟨g0,g1,g2,gl⟩:=(rowCells RG.out B_wa.out).cells3
   obtain ⟨z0,z1,z2,zl⟩:=(rowCells RZ.out B_wc.out).cells3
   obtain ⟨o0,o1,o2,ol⟩:=(rowCells RO.out B_wc.out).cells3
   go_wp2_with fail
   have HC:=rIs_any n gs GA OA gn gc on oc (x) 0 x17 ((HG.out.up B_w.out)) hn hg HBx.out.2 (by have:=HBx.out.1;omega)
   rw [HP2.out ()] at HC
   refine HC.mono ?_
   clear HC
   rintro e x18 ⟨rfl,hb⟩
   have B_w:=hiD (below_on2 B_w.out hb)
   have B_wa:=hiD (below_on2 B_wa.out hb)
   have B_wc:=hiD (below_on2 B_wc.out hb)
   clear c0 c1 c2 cl g0 g1 g2 gl z0 z1 z2 zl o0 o1 o2 ol
   clear hb
   cases P2
   ·skip
    obtain ⟨c0,c1,c2,cl⟩:=(rowCells RC.out B_wa.out).cells3
    obtain ⟨g0,g1,g2,gl⟩:=(rowCells RG.out B_wa.out).cells3
    obtain ⟨z0,z1,z2,zl⟩:=(rowCells RZ.out B_wc.out).cells3
    obtain ⟨o0,o1,o2,ol⟩:=(rowCells RO.out B_wc.out).cells3
    go_wp2_with fail
    have HC:=rIs_any n gs GA OA gn gc on oc (y) 0 x18 ((HG.out.up B_w.out)) hn hg HBy.out.2 (by have:=HBy.out.1;omega)
    rw [HP3.out ()] at HC
    refine HC.mono ?_
    clear HC
    rintro e x19 ⟨rfl,hb⟩
    have B_w:=hiD (below_on2 B_w.out hb)
    have B_wa:=hiD (below_on2 B_wa.out hb)
    have B_wc:=hiD (below_on2 B_wc.out hb)
    clear c0 c1 c2 cl g0 g1 g2 gl z0 z1 z2 zl o0 o1 o2 ol
    clear hb
    cases P3
    ·skip
     by_cases hxy:x=y
     ·subst hxy
      obtain ⟨c0,c1,c2,cl⟩:=(rowCells RC.out B_wa.out).cells3
      obtain ⟨g0,g1,g2,gl⟩:=(rowCells RG.out B_wa.out).cells3
      obtain ⟨z0,z1,z2,zl⟩:=(rowCells RZ.out B_wc.out).cells3
      obtain ⟨o0,o1,o2,ol⟩:=(rowCells RO.out B_wc.out).cells3
      obtain ⟨r0,r1,r2,rl⟩:=(rowCells RR.out B_wa.out).cells3
      have RRf:=hiD (rowCells RR.out B_wa.out)
      obtain ⟨rf0,rf1,rf2⟩:=RRf.out.froz3
      go_wp2
      have Z9:=RRf.out.set3 (.int .i64 4) (.int .i64 x) (.int .i64 x)
      have B9:=bSet3 B_w.out (w.heap.size+1+1) (by show _≤(w.heap.size+1+1);omega) (.int .i64 4) (.int .i64 x) (.int .i64 x)
      obtain ⟨d0,d1,d2,-⟩:=Z9.cells3
      clear Z9
      refine bodyPost_ret (v:=.tuple #[.agg #[.int .i64 4,.int .i64 x,.int .i64 x],.int .i64 (x)]) (by simp [results,Try.results99,go_sem,d0,d1,d2]) rfl ?_
      have HV:=(show eitherF n gs ⟨4,x,x⟩ 1 0=(⟨4,x,x⟩,x) from by unfold eitherF;simp [HP0.out (),HP1.out (),HP2.out (),HP3.out ()])
      exact ⟨by rw [HV],B9⟩
     ·have he1:(x == y)=false:=by simpa using hxy
      have he2:decide (x=y)=false:=decide_eq_false hxy
      obtain ⟨c0,c1,c2,cl⟩:=(rowCells RC.out B_wa.out).cells3
      obtain ⟨g0,g1,g2,gl⟩:=(rowCells RG.out B_wa.out).cells3
      obtain ⟨z0,z1,z2,zl⟩:=(rowCells RZ.out B_wc.out).cells3
      obtain ⟨o0,o1,o2,ol⟩:=(rowCells RO.out B_wc.out).cells3
      go_wp2_with fail
      have HC:=rOpp_any n gs GA OA gn gc on oc x y x19 ((HG.out.up B_w.out)) hn hg HBx.out.2 (by have:=HBx.out.1;omega) HBy.out.2 (by have:=HBy.out.1;omega)
      rw [HP4.out ()] at HC
      refine HC.mono ?_
      clear HC
      rintro e x20 ⟨rfl,hb⟩
      have B_w:=hiD (below_on2 B_w.out hb)
      have B_wa:=hiD (below_on2 B_wa.out hb)
      have B_wc:=hiD (below_on2 B_wc.out hb)
      clear c0 c1 c2 cl g0 g1 g2 gl z0 z1 z2 zl o0 o1 o2 ol
      clear hb
      cases P4
      ·skip
       obtain ⟨c0,c1,c2,cl⟩:=(rowCells RC.out B_wa.out).cells3
       obtain ⟨g0,g1,g2,gl⟩:=(rowCells RG.out B_wa.out).cells3
       obtain ⟨z0,z1,z2,zl⟩:=(rowCells RZ.out B_wc.out).cells3
       obtain ⟨o0,o1,o2,ol⟩:=(rowCells RO.out B_wc.out).cells3
       obtain ⟨r0,r1,r2,rl⟩:=(rowCells RR.out B_wa.out).cells3
       have RRf:=hiD (rowCells RR.out B_wa.out)
       obtain ⟨rf0,rf1,rf2⟩:=RRf.out.froz3
       go_wp2
       have Z9:=RRf.out.set3 (.int .i64 4) (.int .i64 x) (.int .i64 y)
       have B9:=bSet3 B_w.out (w.heap.size+1+1) (by show _≤(w.heap.size+1+1);omega) (.int .i64 4) (.int .i64 x) (.int .i64 y)
       obtain ⟨d0,d1,d2,-⟩:=Z9.cells3
       clear Z9
       refine bodyPost_ret (v:=.tuple #[.agg #[.int .i64 4,.int .i64 x,.int .i64 y],.int .i64 (-1)]) (by simp [results,Try.results99,go_sem,d0,d1,d2]) rfl ?_
       have HV:=(show eitherF n gs ⟨4,x,y⟩ 1 0=(⟨4,x,y⟩,-1) from by unfold eitherF;simp [HP0.out (),HP1.out (),HP2.out (),HP3.out (),HP4.out (),hxy])
       exact ⟨by rw [HV],B9⟩
      ·skip
       obtain ⟨c0,c1,c2,cl⟩:=(rowCells RC.out B_wa.out).cells3
       obtain ⟨g0,g1,g2,gl⟩:=(rowCells RG.out B_wa.out).cells3
       obtain ⟨z0,z1,z2,zl⟩:=(rowCells RZ.out B_wc.out).cells3
       obtain ⟨o0,o1,o2,ol⟩:=(rowCells RO.out B_wc.out).cells3
       obtain ⟨r0,r1,r2,rl⟩:=(rowCells RR.out B_wa.out).cells3
       have RRf:=hiD (rowCells RR.out B_wa.out)
       obtain ⟨rf0,rf1,rf2⟩:=RRf.out.froz3
       go_wp2
       have Z9:=RRf.out.set3 (.int .i64 1) (.int .i64 0) (.int .i64 0)
       have B9:=bSet3 B_w.out (w.heap.size+1+1) (by show _≤(w.heap.size+1+1);omega) (.int .i64 1) (.int .i64 0) (.int .i64 0)
       obtain ⟨d0,d1,d2,-⟩:=Z9.cells3
       clear Z9
       refine bodyPost_ret (v:=.tuple #[.agg #[.int .i64 1,.int .i64 0,.int .i64 0],.int .i64 (-1)]) (by simp [results,Try.results99,go_sem,d0,d1,d2]) rfl ?_
       have HV:=(show eitherF n gs ⟨4,x,y⟩ 1 0=(⟨1,0,0⟩,-1) from by unfold eitherF;simp [HP0.out (),HP1.out (),HP2.out (),HP3.out (),HP4.out (),hxy])
       exact ⟨by rw [HV],B9⟩
    ·skip
     obtain ⟨c0,c1,c2,cl⟩:=(rowCells RC.out B_wa.out).cells3
     obtain ⟨g0,g1,g2,gl⟩:=(rowCells RG.out B_wa.out).cells3
     obtain ⟨z0,z1,z2,zl⟩:=(rowCells RZ.out B_wc.out).cells3
     obtain ⟨o0,o1,o2,ol⟩:=(rowCells RO.out B_wc.out).cells3
     obtain ⟨r0,r1,r2,rl⟩:=(rowCells RR.out B_wa.out).cells3
     have RRf:=hiD (rowCells RR.out B_wa.out)
     obtain ⟨rf0,rf1,rf2⟩:=RRf.out.froz3
     go_wp2
     have Z9:=RRf.out.set3 (.int .i64 4) (.int .i64 x) (.int .i64 y)
     have B9:=bSet3 B_w.out (w.heap.size+1+1) (by show _≤(w.heap.size+1+1);omega) (.int .i64 4) (.int .i64 x) (.int .i64 y)
     obtain ⟨d0,d1,d2,-⟩:=Z9.cells3
     clear Z9
     refine bodyPost_ret (v:=.tuple #[.agg #[.int .i64 4,.int .i64 x,.int .i64 y],.int .i64 (x)]) (by simp [results,Try.results99,go_sem,d0,d1,d2]) rfl ?_
     have HV:=(show eitherF n gs ⟨4,x,y⟩ 1 0=(⟨4,x,y⟩,x) from by unfold eitherF;simp [HP0.out (),HP1.out (),HP2.out (),HP3.out ()])
     exact ⟨by rw [HV],B9⟩
   ·skip
    obtain ⟨c0,c1,c2,cl⟩:=(rowCells RC.out B_wa.out).cells3
    obtain ⟨g0,g1,g2,gl⟩:=(rowCells RG.out B_wa.out).cells3
    obtain ⟨z0,z1,z2,zl⟩:=(rowCells RZ.out B_wc.out).cells3
    obtain ⟨o0,o1,o2,ol⟩:=(rowCells RO.out B_wc.out).cells3
    obtain ⟨r0,r1,r2,rl⟩:=(rowCells RR.out B_wa.out).cells3
    have RRf:=hiD (rowCells RR.out B_wa.out)
    obtain ⟨rf0,rf1,rf2⟩:=RRf.out.froz3
    go_wp2
    have Z9:=RRf.out.set3 (.int .i64 4) (.int .i64 x) (.int .i64 y)
    have B9:=bSet3 B_w.out (w.heap.size+1+1) (by show _≤(w.heap.size+1+1);omega) (.int .i64 4) (.int .i64 x) (.int .i64 y)
    obtain ⟨d0,d1,d2,-⟩:=Z9.cells3
    clear Z9
    refine bodyPost_ret (v:=.tuple #[.agg #[.int .i64 4,.int .i64 x,.int .i64 y],.int .i64 (y)]) (by simp [results,Try.results99,go_sem,d0,d1,d2]) rfl ?_
    have HV:=(show eitherF n gs ⟨4,x,y⟩ 1 0=(⟨4,x,y⟩,y) from by unfold eitherF;simp [HP0.out (),HP1.out (),HP2.out ()])
    exact ⟨by rw [HV],B9⟩
  ·skip
   obtain ⟨c0,c1,c2,cl⟩:=(rowCells RC.out B_wa.out).cells3
   obtain ⟨g0,g1,g2,gl⟩:=(rowCells RG.out B_wa.out).cells3
   obtain ⟨z0,z1,z2,zl⟩:=(rowCells RZ.out B_wc.out).cells3
   obtain ⟨o0,o1,o2,ol⟩:=(rowCells RO.out B_wc.out).cells3
   obtain ⟨r0,r1,r2,rl⟩:=(rowCells RR.out B_wa.out).cells3
   have RRf:=hiD (rowCells RR.out B_wa.out)
   obtain ⟨rf0,rf1,rf2⟩:=RRf.out.froz3
   go_wp2
   have Z9:=RRf.out.set3 (.int .i64 1) (.int .i64 0) (.int .i64 0)
   have B9:=bSet3 B_w.out (w.heap.size+1+1) (by show _≤(w.heap.size+1+1);omega) (.int .i64 1) (.int .i64 0) (.int .i64 0)
   obtain ⟨d0,d1,d2,-⟩:=Z9.cells3
   clear Z9
   refine bodyPost_ret (v:=.tuple #[.agg #[.int .i64 1,.int .i64 0,.int .i64 0],.int .i64 (-1)]) (by simp [results,Try.results99,go_sem,d0,d1,d2]) rfl ?_
   have HV:=(show eitherF n gs ⟨4,x,y⟩ 1 0=(⟨1,0,0⟩,-1) from by unfold eitherF;simp [HP0.out (),HP1.out ()])
   exact ⟨by rw [HV],B9⟩
 ·skip
  obtain ⟨c0,c1,c2,cl⟩:=(rowCells RC.out B_wa.out).cells3
  obtain ⟨g0,g1,g2,gl⟩:=(rowCells RG.out B_wa.out).cells3
  obtain ⟨z0,z1,z2,zl⟩:=(rowCells RZ.out B_wc.out).cells3
  obtain ⟨o0,o1,o2,ol⟩:=(rowCells RO.out B_wc.out).cells3
  obtain ⟨r0,r1,r2,rl⟩:=(rowCells RR.out B_wa.out).cells3
  have RRf:=hiD (rowCells RR.out B_wa.out)
  obtain ⟨rf0,rf1,rf2⟩:=RRf.out.froz3
  go_wp2
  have Z9:=RRf.out.set3 (.int .i64 1) (.int .i64 0) (.int .i64 0)
  have B9:=bSet3 B_w.out (w.heap.size+1+1) (by show _≤(w.heap.size+1+1);omega) (.int .i64 1) (.int .i64 0) (.int .i64 0)
  obtain ⟨d0,d1,d2,-⟩:=Z9.cells3
  clear Z9
  refine bodyPost_ret (v:=.tuple #[.agg #[.int .i64 1,.int .i64 0,.int .i64 0],.int .i64 (-1)]) (by simp [results,Try.results99,go_sem,d0,d1,d2]) rfl ?_
  have HV:=(show eitherF n gs ⟨4,x,y⟩ 1 0=(⟨1,0,0⟩,-1) from by unfold eitherF;simp [HP0.out ()])
  exact ⟨by rw [HV],B9⟩
set_option maxRecDepth 100000 in
set_option maxHeartbeats 8000000 in
theorem rGate_any (n:Int) (gs:List Gt) (GA OA:Option Addr) (gn gc on oc:Nat) (g:Gt) (w:World) (hG:Rd w w.heap.size 3 GA gn (gatesCells gs)) (hn:0≤n∧n≤1000) (hg:gn≤20000) (hgo:gateOk (n+(gn:Int)) g=true):
 Calls Try.prog 99 #[.agg #[.int .i64 n,.slice GA gn gc,.slice OA on oc],.agg #[.int .i64 g.op,.int .i64 g.a,.int .i64 g.b]] w (fun e w'=>e=.returned (.tuple #[.agg #[.int .i64 (foldG n gs g).1.op,.int .i64 (foldG n gs g).1.a,.int .i64 (foldG n gs g).1.b],.int .i64 (foldG n gs g).2])∧Below w.heap.size w w'):=by
 obtain ⟨hop,ha,hb,ha0,hb0⟩:=gateOk_parts hgo
 obtain ⟨op,x,y⟩:=g
 dsimp only at hop ha hb ha0 hb0 ⊢
 clear hgo
 rcases hop with rfl | rfl | rfl | rfl | rfl | rfl
 ·have HG:=hiD hG
  clear hG ha hb ha0 hb0
  go_enter Try.func99,Try.ntmps99
  go_upto_region 1 with fail
  obtain ⟨wa,hW9,RC,RG,RR,hgr9⟩:=laid3 w [.int .i64 n,.slice GA gn gc,.slice OA on oc] 37 [.int .i64 0,.int .i64 x,.int .i64 y] 77 [.int .i64 0,.int .i64 0,.int .i64 0] 77
  rewrite [hW9]
  clear hW9
  have B_w:=hiD hgr9
  clear hgr9
  have hwa:w.heap.size+1+1 < wa.heap.size:=RR.out.lt
  obtain ⟨g0,g1,g2,gl⟩:=RG.out.cells3
  go_quiet (fail)
  have B_w:=hiD (below_drewN B_w.out nq)
  have B_wa:Hid (Below wa.heap.size wa (wa.drewN nq)):=below_drewN (Below.refl _ _) nq
  clear g0 g1 g2 gl
  revert B_w B_wa
  generalize (wa.drewN nq)=wb
  intro B_w B_wa
  go_upto_region 3 with fail
  obtain ⟨wc,hW9,RZ,RO,hgr9⟩:=laid2 wb [.int .i64 0,.int .i64 0,.int .i64 0] 77 [.int .i64 1,.int .i64 0,.int .i64 0] 77
  rewrite [hW9]
  clear hW9
  have B_w:=hiD (below_on2 B_w.out hgr9)
  have B_wa:=hiD (below_on2 B_wa.out hgr9)
  clear hgr9
  obtain ⟨c0,c1,c2,cl⟩:=(rowCells RC.out B_wa.out).cells3
  obtain ⟨g0,g1,g2,gl⟩:=(rowCells RG.out B_wa.out).cells3
  obtain ⟨z0,z1,z2,zl⟩:=RZ.out.cells3
  obtain ⟨o0,o1,o2,ol⟩:=RO.out.cells3
  obtain ⟨r0,r1,r2,rl⟩:=(rowCells RR.out B_wa.out).cells3
  have RRf:=hiD (rowCells RR.out B_wa.out)
  obtain ⟨rf0,rf1,rf2⟩:=RRf.out.froz3
  go_wp2
  have Z9:=RRf.out.set3 (.int .i64 0) (.int .i64 x) (.int .i64 y)
  have B9:=bSet3 B_w.out (w.heap.size+1+1) (by show _≤(w.heap.size+1+1);omega) (.int .i64 0) (.int .i64 x) (.int .i64 y)
  obtain ⟨d0,d1,d2,-⟩:=Z9.cells3
  clear Z9
  refine bodyPost_ret (v:=.tuple #[.agg #[.int .i64 0,.int .i64 x,.int .i64 y],.int .i64 (-1)]) (by simp [results,Try.results99,go_sem,d0,d1,d2]) rfl ?_
  have HV:=(show foldG n gs ⟨0,x,y⟩=(⟨0,x,y⟩,-1) from rfl)
  exact ⟨by rw [HV],B9⟩
 ·have HG:=hiD hG
  clear hG ha hb ha0 hb0
  go_enter Try.func99,Try.ntmps99
  go_upto_region 1 with fail
  obtain ⟨wa,hW9,RC,RG,RR,hgr9⟩:=laid3 w [.int .i64 n,.slice GA gn gc,.slice OA on oc] 37 [.int .i64 1,.int .i64 x,.int .i64 y] 77 [.int .i64 0,.int .i64 0,.int .i64 0] 77
  rewrite [hW9]
  clear hW9
  have B_w:=hiD hgr9
  clear hgr9
  have hwa:w.heap.size+1+1 < wa.heap.size:=RR.out.lt
  obtain ⟨g0,g1,g2,gl⟩:=RG.out.cells3
  go_quiet (fail)
  have B_w:=hiD (below_drewN B_w.out nq)
  have B_wa:Hid (Below wa.heap.size wa (wa.drewN nq)):=below_drewN (Below.refl _ _) nq
  clear g0 g1 g2 gl
  revert B_w B_wa
  generalize (wa.drewN nq)=wb
  intro B_w B_wa
  go_upto_region 3 with fail
  obtain ⟨wc,hW9,RZ,RO,hgr9⟩:=laid2 wb [.int .i64 0,.int .i64 0,.int .i64 0] 77 [.int .i64 1,.int .i64 0,.int .i64 0] 77
  rewrite [hW9]
  clear hW9
  have B_w:=hiD (below_on2 B_w.out hgr9)
  have B_wa:=hiD (below_on2 B_wa.out hgr9)
  clear hgr9
  obtain ⟨c0,c1,c2,cl⟩:=(rowCells RC.out B_wa.out).cells3
  obtain ⟨g0,g1,g2,gl⟩:=(rowCells RG.out B_wa.out).cells3
  obtain ⟨z0,z1,z2,zl⟩:=RZ.out.cells3
  obtain ⟨o0,o1,o2,ol⟩:=RO.out.cells3
  obtain ⟨r0,r1,r2,rl⟩:=(rowCells RR.out B_wa.out).cells3
  have RRf:=hiD (rowCells RR.out B_wa.out)
  obtain ⟨rf0,rf1,rf2⟩:=RRf.out.froz3
  go_wp2
  have Z9:=RRf.out.set3 (.int .i64 1) (.int .i64 x) (.int .i64 y)
  have B9:=bSet3 B_w.out (w.heap.size+1+1) (by show _≤(w.heap.size+1+1);omega) (.int .i64 1) (.int .i64 x) (.int .i64 y)
  obtain ⟨d0,d1,d2,-⟩:=Z9.cells3
  clear Z9
  refine bodyPost_ret (v:=.tuple #[.agg #[.int .i64 1,.int .i64 x,.int .i64 y],.int .i64 (-1)]) (by simp [results,Try.results99,go_sem,d0,d1,d2]) rfl ?_
  have HV:=(show foldG n gs ⟨1,x,y⟩=(⟨1,x,y⟩,-1) from rfl)
  exact ⟨by rw [HV],B9⟩
 ·have hy:=hb0 (by omega)
  subst hy
  exact rNot_any n gs GA OA gn gc on oc x w hG hn hg (ha (by omega))
 ·exact rAnd_any n gs GA OA gn gc on oc x y w hG hn hg (ha (by omega)) (hb (by omega))
 ·exact rOr_any n gs GA OA gn gc on oc x y w hG hn hg (ha (by omega)) (hb (by omega))
 ·have HG:=hiD hG
  have HBx:Hid (0≤x∧x < n+(gn:Int)):=ha (by omega)
  have HBy:Hid (0≤y∧y < n+(gn:Int)):=hb (by omega)
  clear hG ha hb ha0 hb0
  go_enter Try.func99,Try.ntmps99
  go_upto_region 1 with fail
  obtain ⟨wa,hW9,RC,RG,RR,hgr9⟩:=laid3 w [.int .i64 n,.slice GA gn gc,.slice OA on oc] 37 [.int .i64 5,.int .i64 x,.int .i64 y] 77 [.int .i64 0,.int .i64 0,.int .i64 0] 77
  rewrite [hW9]
  clear hW9
  have B_w:=hiD hgr9
  clear hgr9
  have hwa:w.heap.size+1+1 < wa.heap.size:=RR.out.lt
  obtain ⟨g0,g1,g2,gl⟩:=RG.out.cells3
  go_quiet (fail)
  have B_w:=hiD (below_drewN B_w.out nq)
  have B_wa:Hid (Below wa.heap.size wa (wa.drewN nq)):=below_drewN (Below.refl _ _) nq
  clear g0 g1 g2 gl
  revert B_w B_wa
  generalize (wa.drewN nq)=wb
  intro B_w B_wa
  go_upto_region 3 with fail
  obtain ⟨wc,hW9,RZ,RO,hgr9⟩:=laid2 wb [.int .i64 0,.int .i64 0,.int .i64 0] 77 [.int .i64 1,.int .i64 0,.int .i64 0] 77
  rewrite [hW9]
  clear hW9
  have B_w:=hiD (below_on2 B_w.out hgr9)
  have B_wa:=hiD (below_on2 B_wa.out hgr9)
  clear hgr9
  obtain ⟨p,hp⟩:∃ p,xorF n gs ⟨5,x,y⟩=p:=⟨_,rfl⟩
  have HP:=hiU hp
  clear hp
  obtain ⟨⟨po,pa,pb⟩,pz⟩:=p
  obtain ⟨c0,c1,c2,cl⟩:=(rowCells RC.out B_wa.out).cells3
  obtain ⟨g0,g1,g2,gl⟩:=(rowCells RG.out B_wa.out).cells3
  obtain ⟨z0,z1,z2,zl⟩:=RZ.out.cells3
  obtain ⟨o0,o1,o2,ol⟩:=RO.out.cells3
  go_wp2_with fail
  have HC:=rXor_any n gs GA OA gn gc on oc x y wc ((HG.out.up B_w.out)) hn hg HBx.out HBy.out
  rw [HP.out ()] at HC
  refine HC.mono ?_
  clear HC
  rintro e w9 ⟨rfl,hb⟩
  have B_w:=hiD (below_on2 B_w.out hb)
  have B_wa:=hiD (below_on2 B_wa.out hb)
  have B_wc:=hiD hb
  clear c0 c1 c2 cl g0 g1 g2 gl z0 z1 z2 zl o0 o1 o2 ol
  clear hb
  obtain ⟨c0,c1,c2,cl⟩:=(rowCells RC.out B_wa.out).cells3
  obtain ⟨g0,g1,g2,gl⟩:=(rowCells RG.out B_wa.out).cells3
  obtain ⟨z0,z1,z2,zl⟩:=(rowCells RZ.out B_wc.out).cells3
  obtain ⟨o0,o1,o2,ol⟩:=(rowCells RO.out B_wc.out).cells3
  obtain ⟨r0,r1,r2,rl⟩:=(rowCells RR.out B_wa.out).cells3
  have RRf:=hiD (rowCells RR.out B_wa.out)
  obtain ⟨rf0,rf1,rf2⟩:=RRf.out.froz3
  go_wp2
  have Z9:=RRf.out.set3 (.int .i64 po) (.int .i64 pa) (.int .i64 pb)
  have B9:=bSet3 B_w.out (w.heap.size+1+1) (by show _≤(w.heap.size+1+1);omega) (.int .i64 po) (.int .i64 pa) (.int .i64 pb)
  obtain ⟨d0,d1,d2,-⟩:=Z9.cells3
  clear Z9
  refine bodyPost_ret (v:=.tuple #[.agg #[.int .i64 po,.int .i64 pa,.int .i64 pb],.int .i64 (pz)]) (by simp [results,Try.results99,go_sem,d0,d1,d2]) rfl ?_
  have HV:=(show foldG n gs ⟨5,x,y⟩=(⟨po,pa,pb⟩,pz) from (show foldG n gs ⟨5,x,y⟩=xorF n gs ⟨5,x,y⟩ from rfl).trans (HP.out ()))
  exact ⟨by rw [HV],B9⟩
end Go.Proofs.Ytiemhbogbaamlaa
