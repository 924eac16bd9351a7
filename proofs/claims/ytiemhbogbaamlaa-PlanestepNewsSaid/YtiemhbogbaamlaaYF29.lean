/-
 A part.
-/
import Derived.Test.YtiemhbogbaamlaaYF1
import Derived.Test.YtiemhbogbaamlaaYF22
import Derived.Test.YtiemhbogbaamlaaYF25
import Derived.Test.YtiemhbogbaamlaaYF27
import Derived.Test.YtiemhbogbaamlaaYF28
import Derived.StillTailTactics
import Derived.Deep.DeepCutAuto
import Derived.Deep.CutRange
set_option linter.unusedSimpArgs false
set_option linter.unusedVariables false
namespace Go.Proofs.Ytiemhbogbaamlaa
open Go.RowKit
theorem hood_ptY {t:Tre} (h:rightT t=true) {k:Nat} (hk:k < t.hood.length):(-2≤(t.hood.getD k default).x∧(t.hood.getD k default).x≤2)∧(-2≤(t.hood.getD k default).y∧(t.hood.getD k default).y≤2):=by
 have:=(rightT_parts h).1
 simp only [hoodOk,hoodPts,Bool.and_eq_true,decide_eq_true_eq] at this
 have:=(this.2 k hk).1
 simpa [ptOk,radius] using this
theorem EngAt.point {W:World} {b:Nat} {t:Tre} {GA OA PA:Option Addr} {gn gc on oc pn pc:Nat} (h:EngAt W b t GA OA PA gn gc on oc pn pc) {k:Nat} (hk:k < pn):
 ∃ ad,PA=some ad∧ad.block < W.heap.size∧W.cell? (ad.add (k * 2))=some (.int .i64 (t.hood.getD k default).x)∧W.cell? ⟨(ad.add (k * 2)).block,(ad.add (k * 2)).off+1,none⟩=some (.int .i64 (t.hood.getD k default).y):=by
 have hl:=h.pl
 obtain ⟨h0,h1⟩:=flat2_get ptCells (fun _=>rfl) t.hood k (by omega)
 exact h.hood.row2 hk h0 h1
theorem wrap_and (x y:BitVec 64) (m:Int) (hm:m=((y.toNat:Nat):Int)):IntKind.u64.wrap (bits .and .u64 (x.toNat:Int) m)=bits .and .u64 (x.toNat:Int) m:=by
 rw [hm,u64_and_nat _ _ x.isLt y.isLt,← BitVec.toNat_and]
 show (((x &&& y).toNat:Nat):Int) % 18446744073709551616=_
 have:=(x &&& y).isLt
 omega
set_option maxRecDepth 100000 in
set_option maxHeartbeats 16000000 in
theorem eNext_any (b:Nat) (t:Tre) (GA OA PA:Option Addr) (gn gc on oc pn pc:Nat) (p:Pln) (A:Option Addr) (n c:Nat) (sl:List Sl) (w:World) (he:EngAt w b t GA OA PA gn gc on oc pn pc) (hp:PAt w p A n sl) (hok:OkTP t p):
 Calls Try.prog 39 #[.pointer (some ⟨b,0,none⟩),.agg #[.int .i64 p.w,.int .i64 p.h,.int .i64 p.edge,.slice A n c]] w (PPost (nextPl t p) 0 w):=by
 have HEN:=hiD he
 have HP:=hiD hp
 have RE:Hid (Row w b 75 [.int .i64 (circT t).inputs,.slice GA gn gc,.slice OA on oc,.slice PA pn pc,.int .i64 t.states]):=he.row
 have HWL:Hid (p.words.length=n):=hp.wl
 have HPL:Hid (t.hood.length=pn):=he.pl
 have HOK:=hiD hok
 obtain ⟨⟨s1,s2⟩,⟨s3,s4⟩,s5,s6,s7⟩:=hok.sizes
 have hn13:=(rightPl_parts hok.rp).2.1
 rw [HWL.out] at hn13
 have hpn:=hood_pos hok.ok.rt
 rw [HPL.out] at hpn
 obtain ⟨W,hW⟩:∃ W:Nat,p.w=(W:Int):=⟨p.w.toNat,by omega⟩
 obtain ⟨Hh,hH⟩:∃ Hh:Nat,p.h=(Hh:Int):=⟨p.h.toNat,by omega⟩
 obtain ⟨E,hE⟩:∃ E:Nat,p.edge=(E:Int):=⟨p.edge.toNat,by omega⟩
 have HW:=hiD hW
 have HH:=hiD hH
 have HE:=hiD hE
 have HWT:Hid (p.w.toNat=W∧p.h.toNat=Hh):=by rw [hW,hH];exact ⟨Int.toNat_natCast W,Int.toNat_natCast Hh⟩
 have hW1:1≤W∧W≤256:=by omega
 have hH1:1≤Hh∧Hh≤256:=by omega
 obtain ⟨nn,hnn⟩:∃ nn,nn=wpr W:=⟨_,rfl⟩
 have HNN:Hid (wpr W=nn):=hnn.symm
 obtain ⟨w1',w2',w3'⟩:=wpr_bd hW1.1
 rw [← hnn] at w1' w2' w3'
 have hn4:nn≤4:=by omega
 obtain ⟨M,hM⟩:∃ M,M=Hh * nn:=⟨_,rfl⟩
 have HMM:=hiD hM
 have hMb:M≤1024:=by rw [hM];exact Nat.mul_le_mul hH1.2 hn4
 have hM1:1≤M:=by rw [hM];exact Nat.mul_le_mul hH1.1 w1'
 have HMW:Hid (∀ dx dy:Int,moveErr p dx dy=0∧moveR p dx dy=moveP p dx dy∨¬ offOk dx dy=true):=fun dx dy=>by
  by_cases ho:offOk dx dy=true
  ·have h2:moveErr p dx dy=0:=by unfold moveErr;rw [if_pos ⟨HOK.out.rp,ho⟩]
   exact .inl ⟨h2,by unfold moveR;rw [if_pos h2]⟩
  ·exact .inr ho
 clear s1 s2 s3 s4 s5 s6 s7 hW hH hE hnn hM he hp hok w2' w3'
 go_enter Try.func39,Try.ntmps39
 go_upto_region 1 with fail
 obtain ⟨wa,hW9,RP,RZ,hgr9⟩:=laid2 w [.int .i64 p.w,.int .i64 p.h,.int .i64 p.edge,.slice A n c] 42 [.int .i64 0,.int .i64 0,.int .i64 0,.slice none 0 0] 42
 rewrite [hW9]
 clear hW9
 have B_w:=hiD hgr9
 clear hgr9
 rw [HW.out,HH.out,HE.out] at RP
 have hsa:w.heap.size+1 < wa.heap.size:=RZ.out.lt
 obtain ⟨k0,k1,k2,k3,kl⟩:=RP.out.cells4
 obtain ⟨e0,e1,e2,e3,e4,el⟩:=(rowCells RE.out B_w.out).cells5
 go_wp2_with fail
 clear k0 k1 k2 k3 kl e0 e1 e2 e3 e4 el
 go_loopg [7,9,10,11,31] pn (fun gg s7 _ _ _ s31 wr=>∃ (k:Nat) (v:Value) (gs:List Nat),k≤pn∧pn - k≤gg∧s31=.int .i64 k∧s7=v∧Aside (Below wa.heap.size wa wr)∧Aside (POwn wr wa.heap.size (v) M gs (rowsTo t p (k))))
 case atStart=>exact ⟨0,_,[],Nat.zero_le _,by omega,rfl,rfl,Below.refl _ _,POwn.nil _ _ _⟩
 case round=>
  obtain ⟨k,v,gs,hk,hgg,rfl,rfl,BX,HOI⟩:=hrel
  by_cases hlt:k < pn
  ·have hlz:(k:Int) < (pn:Int):=by omega
   have BWr:=hiD (below_on2 B_w.out BX.out)
   obtain ⟨ad,rfl,hab,c0,c1⟩:=(HEN.out.up BWr.out).point hlt
   obtain ⟨⟨x1,x2⟩,y1,y2⟩:=hood_ptY HOK.out.ok.rt (k:=k) (by rw [HPL.out];exact hlt)
   have HRS:Hid (rowsTo t p (k+1)=rowsTo t p k ++ (moveP p (t.hood.getD k default).x (t.hood.getD k default).y).words):=rowsTo_succ _ _ _ (by rw [HPL.out];exact hlt)
   generalize (t.hood.getD k default).x=px at c0 x1 x2 HRS
   generalize (t.hood.getD k default).y=py at c1 y1 y2 HRS
   have hmv:=(HMW.out px py).resolve_right (fun h=>h (by unfold offOk;exact decide_eq_true (by omega)))
   have HMV:=hiD hmv
   clear hmv x1 x2 y1 y2
   go_upto_region 6 with fail
   clear c0 c1 hab
   have RPr:=hiD (rowCells RP.out BX.out)
   obtain ⟨w1,hW9,RQ,hgr9⟩:=laid1 wr [.int .i64 px,.int .i64 py] 73
   rewrite [hW9]
   clear hW9
   have B_wr:=hiD hgr9
   clear hgr9
   have HS1:Hid (wr.heap.size≤w1.heap.size):=B_wr.out.size
   obtain ⟨k0,k1,k2,k3,kl⟩:=(rowCells RPr.out B_wr.out).cells4
   obtain ⟨q0,q1,ql⟩:=RQ.out.cells2
   go_wp2_with fail
   have HC:=plMove_any p A n c sl px py w1 (HP.out.up (below_on2 BWr.out B_wr.out))
   rw [HMV.out.1,HMV.out.2] at HC
   rw [HW.out,HH.out,HE.out] at HC
   refine HC.mono ?_
   clear HC
   rintro e w2 ⟨QA,qn,qc,M',gs',he,ho,⟨hl1,hl2,hl3⟩,hb⟩
   have HQL:Hid ((moveP p px py).words.length=n):=by show _=_;rw [moveP,pack_len];exact HWL.out
   obtain rfl:n=qn:=by rw [← hl1];exact HQL.out.symm
   obtain rfl:M=M':=by
    have h1:=ho.wid 0 (by rw [HQL.out];omega)
    rw [moved_wid (t:=t) px py (by rw [HQL.out];omega),HWT.out.1,HWT.out.2,HNN.out,← HMM.out] at h1
    exact h1
   have he2:e=.returned (.tuple #[.agg #[.int .i64 W,.int .i64 Hh,.int .i64 E,.slice QA n qc],.int .i64 0]):=by rw [he];show Ending.returned (.tuple #[.agg #[.int .i64 p.w,.int .i64 p.h,.int .i64 p.edge,.slice QA n qc],.int .i64 0])=_;rw [HW.out,HH.out,HE.out]
   subst he2
   have HQ2:=hiD ho
   clear he ho hl1 hl2 hl3
   have B_wr:=hiD (below_on2 B_wr.out hb)
   clear k0 k1 k2 k3 kl q0 q1 ql
   clear hb
   go_upto_region 7 with fail
   obtain ⟨w3,hW9,RM,hgr9⟩:=laid1 w2 [.int .i64 W,.int .i64 Hh,.int .i64 E,.slice QA n qc] 42
   rewrite [hW9]
   clear hW9
   have B_wr:=hiD (below_on2 B_wr.out hgr9)
   have B_w2:=hiD hgr9
   clear hgr9
   have HQ3:Hid (POwn w3 w1.heap.size (.slice QA n qc) M gs' (moveP p px py).words):=HQ2.out.up B_w2.out
   have OI3:Hid (POwn w3 wa.heap.size (u7) M gs (rowsTo t p (k))):=HOI.out.up B_wr.out
   have hlb:(rowsTo t p k).length≤75:=by
    rw [rowsTo_len k (by rw [HPL.out];exact hk),HWL.out]
    exact Nat.mul_le_mul (show k≤25 by omega) hn13.2
   have hszx:wa.heap.size≤wr.heap.size:=BX.out.size
   have hsz1:wr.heap.size≤w1.heap.size:=HS1.out
   have hsz3:wr.heap.size≤w3.heap.size:=B_wr.out.size
   obtain ⟨k0,k1,k2,k3,kl⟩:=RM.out.cells4
   go_wp2_with (at_builtin;refine wpList_app rfl (.tmp 48) (.tmp 50) 40 rfl wa.heap.size 67 (.slice none 0 0) 1 24 Try.underlying40 row_infoP rfl (by decide) (by decide) u7 (rowsTo t p k).length (gs.map (gcell M)) rfl ?own w3.heap.size QA n qc (gs'.map (gcell M)) rfl ?rd ?one ?hb ?hbase ?_)
   case own=>exact OI3.out.own
   case rd=>exact (by have h:=HQ3.out.own;rw [HQL.out] at h;exact Rd.of_own h)
   case one=>
    intro u hu
    obtain ⟨g,_,rfl⟩:=List.mem_map.1 hu
    rfl
   case hb=>omega
   case hbase=>omega
   intro v' w4 hown' hgrow' hat'
   have OI4:Hid (POwn w4 wa.heap.size v' M (gs ++ gs') (rowsTo t p (k+1))):=(by
    show POwn _ _ _ _ _ _
    rw [HRS.out]
    exact OI3.out.app HQ3.out (by omega) (fun i hi=>Nat.lt_of_lt_of_le (HOI.out.row i hi).lt hsz1) hgrow' (by rw [HQL.out];exact hown'))
   have BX4:Hid (Below wa.heap.size wa w4):=(below_on2 BX.out B_wr.out).grown hgrow' (by omega) (fun q hq=>(OI3.out.own.lt q hq).1)
   clear hown' hgrow' hat' k0 k1 k2 k3 kl
   go_wp2
   go_roundg (pn - (k+1))
   case measure=>omega
   case rel=>exact ⟨k+1,_,_,by omega,by omega,by go_num,rfl,BX4.out,OI4.out⟩
  ·have hlz:¬ (k:Int) < (pn:Int):=by omega
   obtain rfl:pn=k:=by omega
   have OI4:Hid (POwn wr wa.heap.size u7 M gs (inRows t p)):=(by have h:=HOI.out;rw [← HPL.out,rowsTo_all] at h;exact h)
   have BX4:Hid (Below wa.heap.size wa wr):=BX.out
   clear HOI BX hgg hlz hk hlt
   revert OI4 BX4
   generalize wr=w4
   intro OI4 BX4
   have HIL:Hid (∀ _:Unit,(inRows t p).length=lowN t):=fun _=>inRows_length HOK.out
   have hN:lowN t≤75:=by unfold lowN;rw [HPL.out,← HOK.out.nb,HWL.out];exact Nat.mul_le_mul hpn.2 hn13.2
   obtain ⟨N,hNN⟩:∃ N,lowN t=N:=⟨_,rfl⟩
   have HNE:=hiU hNN
   rw [hNN] at hN
   have hrl:(inRows t p).length=N:=(HIL.out ()).trans hNN
   have HRL:=hiD hrl
   clear hNN hrl HIL
   obtain ⟨VA,vc,hv,_⟩:=Rd.own (by have h:=OI4.out.own;rw [HRL.out] at h;exact h)
   subst hv
   have BW4:=hiD (below_on2 B_w.out BX4.out)
   have RP4:=hiD (rowCells RP.out BX4.out)
   have RZ4:=hiD (rowCells RZ.out BX4.out)
   have hs4:w.heap.size+1 < w4.heap.size:=RZ4.out.lt
   have hq1:IntKind.i64.wrap ((W:Int)+63)=(W:Int)+63:=IntWalk.i64_in _ (by omega)
   have hq2:((W:Int)+63) / 64=(nn:Int):=by rw [← HNN.out];unfold wpr;omega
   have hq3:Int.tdiv ((W:Int)+63) 64=(nn:Int):=by rw [Int.tdiv_eq_ediv_of_nonneg (by omega)];exact hq2
   clear RP RZ BX4 B_w
   obtain ⟨k0,k1,k2,k3,kl⟩:=RP4.out.cells4
   go_upto_region 12 with fail
   clear hq1 hq2 hq3
   have hmk:=fun W9=>make_like (P:=Try.prog) Try.underlying40 row_infoP rfl n (n:Int) rfl (by omega) (by omega) W9
   clear k0 k1 k2 k3 kl
   go_cut [13] from 57 (fun s13 wx=>∃ (ob ow:Nat),s13=.pointer (some ⟨ob,0,none⟩)∧Row wx ob 42 [.int .i64 W,.int .i64 Hh,.int .i64 E,.slice (some ⟨ow,0,none⟩) n n]∧Row wx ow 67 (List.replicate n (Value.slice none 0 0))∧w4.heap.size≤ob∧w4.heap.size≤ow∧ow≠ob∧Below w4.heap.size w4 wx)
   case first=>
    refine wp_region_L (fun w'=>Row w' (w.heap.size) 42 [.int .i64 W,.int .i64 Hh,.int .i64 E,.slice A n c]) [10] (by kernel_rfl) (by exact Row.drew RP4.out) (fun hHeld=>?_)
    have B_w4:Hid (Below w4.heap.size w4 (World.drew w4)):=(Below.refl _ _).drew
    revert hHeld B_w4
    generalize World.drew w4=w4q
    intro hHeld B_w4
    refine lPureW 0 ?vm1 rfl (by rfl) ?ym1 ?rm1
    case ym1=>intro w' hSw;clear hSw;go_simp;try (with_reducible rfl)
    go_simp
    refine lPureW 2 ?vm2 rfl (by rfl) ?ym2 ?rm2
    case ym2=>intro w' hSw;clear hSw;go_simp;try (with_reducible rfl)
    go_simp
    refine lPureW 4 ?vm3 rfl (by rfl) ?ym3 ?rm3
    case ym3=>intro w' hSw;clear hSw;go_simp;try (with_reducible rfl)
    go_simp
    refine lPureW 6 ?vm4 rfl (by rfl) ?ym4 ?rm4
    case ym4=>intro w' hSw;clear hSw;go_simp;try (with_reducible rfl)
    go_simp
    refine lTakeW 1 ?vm5 [[10]] rfl (by rfl) ?ym5 hHeld ?rm5
    case ym5=>
     intro w' hSw
     have s0:=hSw
     clear hSw
     have hT0:=hiD s0
     obtain ⟨z0_0,z0_1,z0_2,z0_3,z0_l⟩:=hT0.out.cells4
     clear s0
     go_simp
     try (with_reducible rfl)
    go_simp
    refine lTakeW 3 ?vm6 [[10]] rfl (by rfl) ?ym6 hHeld ?rm6
    case ym6=>
     intro w' hSw
     have s0:=hSw
     clear hSw
     have hT0:=hiD s0
     obtain ⟨z0_0,z0_1,z0_2,z0_3,z0_l⟩:=hT0.out.cells4
     clear s0
     go_simp
     try (with_reducible rfl)
    go_simp
    refine lTakeW 5 ?vm7 [[10]] rfl (by rfl) ?ym7 hHeld ?rm7
    case ym7=>
     intro w' hSw
     have s0:=hSw
     clear hSw
     have hT0:=hiD s0
     obtain ⟨z0_0,z0_1,z0_2,z0_3,z0_l⟩:=hT0.out.cells4
     clear s0
     go_simp
     try (with_reducible rfl)
    go_simp
    refine restL_two (i:=7) (j:=9) (by kernel_rfl) rfl rfl (fun K hK=>?_) (fun K hK=>?_)
    ·go_simp
     have RW:Hid (Row (World.alloc w4q (.cells (likeRow (.slice none 0 0) n) 67)) w4q.heap.size 67 (List.replicate n (Value.slice none 0 0))):=Row.new w4q 67 (List.replicate n (Value.slice none 0 0))
     have hb:Below w4q.heap.size w4q (World.alloc w4q (.cells (likeRow (.slice none 0 0) n) 67)):=(Below.refl _ _).alloc (Nat.le_refl _) _
     have hszo:w4.heap.size≤w4q.heap.size:=B_w4.out.size
     revert RW hb hszo
     generalize (World.alloc w4q (.cells (likeRow (.slice none 0 0) n) 67))=y1
     intro RW hb hszo
     clear hHeld
     have B_w4:=hiD (below_on2 B_w4.out hb)
     clear hb
     refine hK.out _ _ (fun _=>?keep) (fun hHeld=>?_)
     case keep=>exact (rowCells RP4.out B_w4.out)
     have hHeld:=hHeld rfl
     clear hK K
     try go_simp
     refine lPureW 8 ?vm8 rfl (by rfl) ?ym8 ?rm8
     case ym8=>intro w' hSw;clear hSw;go_simp;try (with_reducible rfl)
     go_simp
     refine restL_one (i:=9) (by kernel_rfl) rfl (fun K hK=>?_)
     go_simp
     have RO:Hid (Row (World.alloc y1 (.cells #[.int .i64 0,.int .i64 0,.int .i64 0,.slice none 0 0] 42)) y1.heap.size 42 [.int .i64 0,.int .i64 0,.int .i64 0,.slice none 0 0]):=Row.new y1 42 [.int .i64 0,.int .i64 0,.int .i64 0,.slice none 0 0]
     have hb:Below y1.heap.size y1 (World.alloc y1 (.cells #[.int .i64 0,.int .i64 0,.int .i64 0,.slice none 0 0] 42)):=(Below.refl _ _).alloc (Nat.le_refl _) _
     have hszb:w4.heap.size≤y1.heap.size:=B_w4.out.size
     revert RO hb hszb
     generalize (World.alloc y1 (.cells #[.int .i64 0,.int .i64 0,.int .i64 0,.slice none 0 0] 42))=y2
     intro RO hb hszb
     clear hHeld
     have B_w4:=hiD (below_on2 B_w4.out hb)
     have B_y1:=hiD hb
     clear hb
     refine hK.out _ _ (fun _=>?keep) (fun hHeld=>?_)
     case keep=>exact (rowCells RP4.out B_w4.out)
     have hHeld:=hHeld rfl
     clear hK K
     try go_simp
     refine restL_one (i:=10) (by kernel_rfl) rfl (fun K hK=>?_)
     have ROc:Hid (Row y2 (y1.heap.size) 42 [.int .i64 0,.int .i64 0,.int .i64 0,.slice none 0 0]):=RO.out
     have RWc:=hiD (rowCells RW.out B_y1.out)
     obtain ⟨z0,z1,z2,z3,zl⟩:=ROc.out.cells4
     obtain ⟨zf0,zf1,zf2,zf3⟩:=ROc.out.froz4
     go_simp
     refine hK.out _ _ (fun h=>absurd h (by decide)) (fun _=>?_)
     clear hK K
     try go_simp
     refine restL_done (by kernel_rfl) ?_ _
     clear z0 z1 z2 z3 zl zf0 zf1 zf2 zf3
     go_wp2_with fail
     go_meet
     have hneW:w4q.heap.size≠y1.heap.size:=by have h9:=RW.out.lt;have h8:y1.heap.size≤y1.heap.size:=Nat.le_refl _;omega
     case rel=>exact ⟨y1.heap.size,w4q.heap.size,rfl,(Row.set (Row.set (Row.set (Row.set ROc.out 0 (.int .i64 W)) 1 (.int .i64 Hh)) 2 (.int .i64 E)) 3 (.slice (some ⟨w4q.heap.size,0,none⟩) n n)),(Row.far (Row.far (Row.far (Row.far RWc.out (p:=⟨y1.heap.size,0,none⟩) hneW (.int .i64 W)) (p:=⟨y1.heap.size,1,none⟩) hneW (.int .i64 Hh)) (p:=⟨y1.heap.size,2,none⟩) hneW (.int .i64 E)) (p:=⟨y1.heap.size,3,none⟩) hneW (.slice (some ⟨w4q.heap.size,0,none⟩) n n)),hszb,hszo,hneW,(Below.setCell (Below.setCell (Below.setCell (Below.setCell B_w4.out (p:=⟨y1.heap.size,0,none⟩) hszb (.int .i64 W)) (p:=⟨y1.heap.size,1,none⟩) hszb (.int .i64 Hh)) (p:=⟨y1.heap.size,2,none⟩) hszb (.int .i64 E)) (p:=⟨y1.heap.size,3,none⟩) hszb (.slice (some ⟨w4q.heap.size,0,none⟩) n n))⟩
    ·go_simp
     have RO:Hid (Row (World.alloc w4q (.cells #[.int .i64 0,.int .i64 0,.int .i64 0,.slice none 0 0] 42)) w4q.heap.size 42 [.int .i64 0,.int .i64 0,.int .i64 0,.slice none 0 0]):=Row.new w4q 42 [.int .i64 0,.int .i64 0,.int .i64 0,.slice none 0 0]
     have hb:Below w4q.heap.size w4q (World.alloc w4q (.cells #[.int .i64 0,.int .i64 0,.int .i64 0,.slice none 0 0] 42)):=(Below.refl _ _).alloc (Nat.le_refl _) _
     have hszb:w4.heap.size≤w4q.heap.size:=B_w4.out.size
     revert RO hb hszb
     generalize (World.alloc w4q (.cells #[.int .i64 0,.int .i64 0,.int .i64 0,.slice none 0 0] 42))=y1
     intro RO hb hszb
     clear hHeld
     have B_w4:=hiD (below_on2 B_w4.out hb)
     clear hb
     refine hK.out _ _ (fun _=>?keep) (fun hHeld=>?_)
     case keep=>exact (rowCells RP4.out B_w4.out)
     have hHeld:=hHeld rfl
     clear hK K
     try go_simp
     refine restL_one (i:=7) (by kernel_rfl) rfl (fun K hK=>?_)
     go_simp
     have RW:Hid (Row (World.alloc y1 (.cells (likeRow (.slice none 0 0) n) 67)) y1.heap.size 67 (List.replicate n (Value.slice none 0 0))):=Row.new y1 67 (List.replicate n (Value.slice none 0 0))
     have hb:Below y1.heap.size y1 (World.alloc y1 (.cells (likeRow (.slice none 0 0) n) 67)):=(Below.refl _ _).alloc (Nat.le_refl _) _
     have hszo:w4.heap.size≤y1.heap.size:=B_w4.out.size
     revert RW hb hszo
     generalize (World.alloc y1 (.cells (likeRow (.slice none 0 0) n) 67))=y2
     intro RW hb hszo
     clear hHeld
     have B_w4:=hiD (below_on2 B_w4.out hb)
     have B_y1:=hiD hb
     clear hb
     refine hK.out _ _ (fun _=>?keep) (fun hHeld=>?_)
     case keep=>exact (rowCells RP4.out B_w4.out)
     have hHeld:=hHeld rfl
     clear hK K
     try go_simp
     refine lPureW 8 ?vm9 rfl (by rfl) ?ym9 ?rm9
     case ym9=>intro w' hSw;clear hSw;go_simp;try (with_reducible rfl)
     go_simp
     refine restL_one (i:=10) (by kernel_rfl) rfl (fun K hK=>?_)
     have ROc:=hiD (rowCells RO.out B_y1.out)
     have RWc:Hid (Row y2 (y1.heap.size) 67 (List.replicate n (Value.slice none 0 0))):=RW.out
     obtain ⟨z0,z1,z2,z3,zl⟩:=ROc.out.cells4
     obtain ⟨zf0,zf1,zf2,zf3⟩:=ROc.out.froz4
     go_simp
     refine hK.out _ _ (fun h=>absurd h (by decide)) (fun _=>?_)
     clear hK K
     try go_simp
     refine restL_done (by kernel_rfl) ?_ _
     clear z0 z1 z2 z3 zl zf0 zf1 zf2 zf3
     go_wp2_with fail
     go_meet
     have hneW:y1.heap.size≠w4q.heap.size:=by have h9:=RO.out.lt;have h8:y1.heap.size≤y1.heap.size:=Nat.le_refl _;omega
     case rel=>exact ⟨w4q.heap.size,y1.heap.size,rfl,(Row.set (Row.set (Row.set (Row.set ROc.out 0 (.int .i64 W)) 1 (.int .i64 Hh)) 2 (.int .i64 E)) 3 (.slice (some ⟨y1.heap.size,0,none⟩) n n)),(Row.far (Row.far (Row.far (Row.far RWc.out (p:=⟨w4q.heap.size,0,none⟩) hneW (.int .i64 W)) (p:=⟨w4q.heap.size,1,none⟩) hneW (.int .i64 Hh)) (p:=⟨w4q.heap.size,2,none⟩) hneW (.int .i64 E)) (p:=⟨w4q.heap.size,3,none⟩) hneW (.slice (some ⟨y1.heap.size,0,none⟩) n n)),hszb,hszo,hneW,(Below.setCell (Below.setCell (Below.setCell (Below.setCell B_w4.out (p:=⟨w4q.heap.size,0,none⟩) hszb (.int .i64 W)) (p:=⟨w4q.heap.size,1,none⟩) hszb (.int .i64 Hh)) (p:=⟨w4q.heap.size,2,none⟩) hszb (.int .i64 E)) (p:=⟨w4q.heap.size,3,none⟩) hszb (.slice (some ⟨y1.heap.size,0,none⟩) n n))⟩
   obtain ⟨ob,ow,rfl,h1,h2,hob,how,hne,h6⟩:=hcut
   obtain ⟨w5,rfl⟩:∃ w5:World,w5=wc:=⟨_,rfl⟩
   have RO5:=hiD h1
   have BX5:=hiD h6
   have PP5:Hid (PPart w5 w4.heap.size ow M n []):=⟨Nat.zero_le _,h2,fun i hi=>absurd hi (Nat.not_lt_zero _),fun i hi=>absurd hi (Nat.not_lt_zero _),fun i j hi=>absurd hi (Nat.not_lt_zero _)⟩
   clear h1 h2 h6 hmk
   have hmul:(nn:Int) * (Hh:Int)=(M:Int):=by rw [HMM.out,Int.natCast_mul,Int.mul_comm]
   have hwm:IntKind.i64.wrap (M:Int)=(M:Int):=IntWalk.i64_in _ (by omega)
   have hmk:=fun W9=>make_like (P:=Try.prog) Try.underlying67 word_infoP rfl M (M:Int) rfl (by omega) (by omega) W9
   obtain ⟨j0,j1,j2,j3,jl⟩:=RO5.out.cells4
   go_wp2_with fail
   clear j0 j1 j2 j3 jl
   go_loopg [14,69] n (fun gg _ s69 wr=>∃ (k:Nat) (gs2:List Nat),k≤n∧n - k≤gg∧s69=.int .i64 k∧gs2.length=k∧Aside (Below w4.heap.size w4 wr)∧Aside (Row wr ob 42 [.int .i64 W,.int .i64 Hh,.int .i64 E,.slice (some ⟨ow,0,none⟩) n n])∧Aside (PPart wr w4.heap.size ow M n gs2))
   case atStart=>exact ⟨0,[],Nat.zero_le _,by omega,rfl,rfl,BX5.out,RO5.out,PP5.out⟩
   case round=>
    clear RO5 BX5 PP5
    obtain ⟨k,gs2,hk,hgg,rfl,hgl,BX,RO,PP⟩:=hrel
    by_cases hlt:k < n
    ·have hlz:(k:Int) < (n:Int):=by omega
     have RPr:=hiD (rowCells RP4.out BX.out)
     have ROr:Hid (Row wr ob 42 [.int .i64 W,.int .i64 Hh,.int .i64 E,.slice (some ⟨ow,0,none⟩) n n]):=RO.out
     have HGL:=hiU hgl
     have HGI:Hid (∀ i,i < gs2.length→gs2.getD i 0 < wr.heap.size):=fun i hi=>(PP.out.row i hi).lt
     have hszr:w4.heap.size≤wr.heap.size:=BX.out.size
     have howr:ow < wr.heap.size:=PP.out.own.lt
     clear hgl RO
     go_wp2_with fail
     refine wp_region_L (fun w'=>Row w' (w.heap.size) 42 [.int .i64 W,.int .i64 Hh,.int .i64 E,.slice A n c]∧Row w' (ob) 42 [.int .i64 W,.int .i64 Hh,.int .i64 E,.slice (some ⟨ow,0,none⟩) n n]) [9] (by kernel_rfl) (by exact ⟨Row.drew RPr.out,Row.drew ROr.out⟩) (fun hHeld=>?_)
     have B_wr:Hid (Below wr.heap.size wr (World.drew wr)):=(Below.refl _ _).drew
     revert hHeld B_wr
     generalize World.drew wr=wrq
     intro hHeld B_wr
     refine lPureW 0 ?vk1 rfl (by rfl) ?yk1 ?rk1
     case yk1=>intro w' hSw;clear hSw;go_simp;try (with_reducible rfl)
     go_simp
     refine lPureW 2 ?vk2 rfl (by rfl) ?yk2 ?rk2
     case yk2=>intro w' hSw;clear hSw;go_simp;try (with_reducible rfl)
     go_simp
     refine lPureW 3 ?vk3 rfl (by rfl) ?yk3 ?rk3
     case yk3=>intro w' hSw;clear hSw;go_simp;try (with_reducible rfl)
     go_simp
     refine lPureW 4 ?vk4 rfl (by rfl) ?yk4 ?rk4
     case yk4=>intro w' hSw;clear hSw;go_simp;try (with_reducible rfl)
     go_simp
     refine lTakeW 1 ?vk5 [[9]] rfl (by rfl) ?yk5 hHeld ?rk5
     case yk5=>
      intro w' hSw
      obtain ⟨s0,s1⟩:=hSw
      have hT0:=hiD s0
      obtain ⟨z0_0,z0_1,z0_2,z0_3,z0_l⟩:=hT0.out.cells4
      have hT1:=hiD s1
      obtain ⟨z1_0,z1_1,z1_2,z1_3,z1_l⟩:=hT1.out.cells4
      clear s0 s1
      go_simp
      try (with_reducible rfl)
     go_simp
     refine lTakeW 5 ?vk6 [[9]] rfl (by rfl) ?yk6 hHeld ?rk6
     case yk6=>
      intro w' hSw
      obtain ⟨s0,s1⟩:=hSw
      have hT0:=hiD s0
      obtain ⟨z0_0,z0_1,z0_2,z0_3,z0_l⟩:=hT0.out.cells4
      have hT1:=hiD s1
      obtain ⟨z1_0,z1_1,z1_2,z1_3,z1_l⟩:=hT1.out.cells4
      clear s0 s1
      go_simp
      try (with_reducible rfl)
     go_simp
     refine lPureW 6 ?vk7 rfl (by rfl) ?yk7 ?rk7
     case yk7=>intro w' hSw;clear hSw;go_simp;try (with_reducible rfl)
     go_simp
     refine restL_one (i:=7) (by kernel_rfl) rfl (fun K hK=>?_)
     go_simp
     have HRN:Hid (Row (World.alloc wrq (.cells (likeRow (.int .u64 0) M) 66)) wrq.heap.size 66 (w64s (List.replicate M 0#64))):=blankRow wrq M
     have hb:Below wrq.heap.size wrq (World.alloc wrq (.cells (likeRow (.int .u64 0) M) 66)):=(Below.refl _ _).alloc (Nat.le_refl _) _
     have hszq:wr.heap.size≤wrq.heap.size:=B_wr.out.size
     revert HRN hb hszq
     generalize (World.alloc wrq (.cells (likeRow (.int .u64 0) M) 66))=y1
     intro HRN hb hszq
     clear hHeld
     have B_wr:=hiD (below_on2 B_wr.out hb)
     clear hb
     have PPn:Hid (PPart y1 w4.heap.size ow M n gs2):=PP.out.up B_wr.out
     refine hK.out _ _ (fun _=>?keep) (fun hHeld=>?_)
     case keep=>exact ⟨(rowCells RPr.out B_wr.out),(rowCells ROr.out B_wr.out)⟩
     have hHeld:=hHeld rfl
     clear hK K
     try go_simp
     refine lTakeW 8 ?vk8 [[9]] rfl (by rfl) ?yk8 hHeld ?rk8
     case yk8=>
      intro w' hSw
      obtain ⟨s0,s1⟩:=hSw
      have hT0:=hiD s0
      obtain ⟨z0_0,z0_1,z0_2,z0_3,z0_l⟩:=hT0.out.cells4
      have hT1:=hiD s1
      obtain ⟨z1_0,z1_1,z1_2,z1_3,z1_l⟩:=hT1.out.cells4
      clear s0 s1
      go_simp
      try (with_reducible rfl)
     go_simp
     refine restL_one (i:=9) (by kernel_rfl) rfl (fun K hK=>?_)
     have gc0:=PPn.out.cell (HGL.out ()) hlt
     have gcf:=PPn.out.own.frozen k
     have gcl:=PPn.out.own.lt
     go_simp
     refine hK.out _ _ (fun h=>absurd h (by decide)) (fun _=>?_)
     clear hK K
     try go_simp
     refine restL_done (by kernel_rfl) ?_ _
     clear gc0 gcf gcl
     go_wp2_with fail
     go_roundg (n - (k+1))
     case measure=>omega
     case rel=>exact ⟨k+1,gs2 ++ [wrq.heap.size],by omega,by omega,by go_num,by rw [List.length_append,List.length_singleton,HGL.out ()],(below_on2 BX.out B_wr.out).setCell (p:=⟨ow,k,none⟩) how (.slice (some ⟨wrq.heap.size,0,none⟩) M M),(rowCells ROr.out B_wr.out).far (p:=⟨ow,k,none⟩) (by show ob≠ow;omega) (.slice (some ⟨wrq.heap.size,0,none⟩) M M),PPn.out.put (HGL.out ()) hlt HRN.out (by omega) (fun i hi=>Nat.lt_of_lt_of_le (HGI.out i hi) (by omega)) (by omega)⟩
    ·have hlz:¬ (k:Int) < (n:Int):=by omega
     obtain rfl:n=k:=by omega
     have OW6:Hid (POwn wr w4.heap.size (.slice (some ⟨ow,0,none⟩) n n) M gs2 (outK t p n M 0 0)):=(by show POwn _ _ _ _ _ _;rw [outK_zero];exact PP.out.all hgl how (by unfold maxLen;omega))
     have RO6:Hid (Row wr ob 42 [.int .i64 W,.int .i64 Hh,.int .i64 E,.slice (some ⟨ow,0,none⟩) n n]):=RO.out
     have BX6:Hid (Below w4.heap.size w4 wr):=BX.out
     clear PP RO BX hgg hlz hlt hk hgl hmk
     revert OW6 RO6 BX6
     generalize wr=w6
     intro OW6 RO6 BX6
     have hmk:=fun W9=>make_like (P:=Try.prog) Try.underlying67 word_infoP rfl N (N:Int) rfl (by omega) (by omega) W9
     go_upto_region 19 with fail
     clear hmk
     have RI7:Hid (Row (World.alloc w6 (.cells (likeRow (.int .u64 0) N) 66)) w6.heap.size 66 (w64s (List.replicate N 0#64))):=blankRow w6 N
     have HGI:Hid (∀ i,i < n→gs2.getD i 0 < w6.heap.size):=fun i hi=>(OW6.out.row i (by rw [outK_len];exact hi)).lt
     have hs46:w4.heap.size≤w6.heap.size:=BX6.out.size
     have hob6:ob < w6.heap.size:=RO6.out.lt
     have hbw7:Below w6.heap.size w6 (World.alloc w6 (.cells (likeRow (.int .u64 0) N) 66)):=(Below.refl _ _).alloc (Nat.le_refl _) _
     have OW7:Hid (POwn (World.alloc w6 (.cells (likeRow (.int .u64 0) N) 66)) w4.heap.size (.slice (some ⟨ow,0,none⟩) n n) M gs2 (outK t p n M (0) (0))):=OW6.out.up hbw7
     have RO7:Hid (Row (World.alloc w6 (.cells (likeRow (.int .u64 0) N) 66)) ob 42 [.int .i64 W,.int .i64 Hh,.int .i64 E,.slice (some ⟨ow,0,none⟩) n n]):=RO6.out.alloc _
     have BX7:Hid (Below w4.heap.size w4 (World.alloc w6 (.cells (likeRow (.int .u64 0) N) 66))):=BX6.out.alloc hs46 _
     clear OW6 RO6 BX6 hbw7
     revert RI7 OW7 RO7 BX7
     generalize (World.alloc w6 (.cells (likeRow (.int .u64 0) N) 66))=w7
     generalize w6.heap.size=ib at *
     intro RI7 OW7 RO7 BX7
     have RP7:=hiD (rowCells RP4.out BX7.out)
     obtain ⟨k0,k1,k2,k3,kl⟩:=RP7.out.cells4
     go_wp2_with fail
     clear k0 k1 k2 k3 kl RP7
     go_loopg [16,17,18,19,20,21,22,89] M (fun gg _ _ _ _ _ _ _ s89 wr=>∃ (k:Nat) (inL:List (BitVec 64)),k≤M∧M - k≤gg∧s89=.int .i64 k∧inL.length=N∧Aside (Below w4.heap.size w4 wr)∧Aside (Row wr ob 42 [.int .i64 W,.int .i64 Hh,.int .i64 E,.slice (some ⟨ow,0,none⟩) n n])∧Aside (POwn wr w4.heap.size (.slice (some ⟨ow,0,none⟩) n n) M gs2 (outK t p n M (k) (0)))∧Aside (Row wr ib 66 (w64s (inL))))
     case atStart=>exact ⟨0,_,Nat.zero_le _,by omega,rfl,List.length_replicate,BX7.out,RO7.out,OW7.out,RI7.out⟩
     case round=>
      clear BX7 RO7 OW7 RI7
      obtain ⟨k,inL,hk,hgg,rfl,hinl,BX,RO,OW,RI⟩:=hrel
      by_cases hlt:k < M
      ·have hlz:(k:Int) < (M:Int):=by omega
       have HINL:Hid (∀ _:Unit,inL.length=(inRows t p).length):=fun _=>by rw [HRL.out];exact hinl
       clear hinl
       go_wp2_with fail
       obtain ⟨wo,rfl⟩:∃ wo:World,wo=wr:=⟨_,rfl⟩
       go_loopg [17,94] N (fun gg _ s94 wr=>∃ i:Nat,i≤N∧N - i≤gg∧s94=.int .i64 i∧Aside (Below w4.heap.size w4 wr)∧Aside (Row wr ob 42 [.int .i64 W,.int .i64 Hh,.int .i64 E,.slice (some ⟨ow,0,none⟩) n n])∧Aside (POwn wr w4.heap.size (.slice (some ⟨ow,0,none⟩) n n) M gs2 (outK t p n M (k) (0)))∧Aside (Row wr ib 66 (w64s (inMix (inRows t p) k inL i))))
       case atStart=>exact ⟨0,Nat.zero_le _,by omega,rfl,BX.out,RO.out,OW.out,(by rw [inMix_zero];exact RI.out)⟩
       case round=>
        clear BX RO OW RI
        obtain ⟨i,hi,hgg2,rfl,BX,RO,OW,RI⟩:=hrel
        by_cases hli:i < N
        ·have hliz:(i:Int) < (N:Int):=by omega
         have HOI9:=OI4.out.up BX.out
         obtain ⟨ad,rfl,hab,ci⟩:=HOI9.elem HRL.out hli
         have hri:=HOI9.row i (by rw [HRL.out];exact hli)
         have hwi:=HOI9.wid i (by rw [HRL.out];exact hli)
         have ck:wr.cell? ⟨gs.getD i 0,k,none⟩=some (w64 (((inRows t p).getD i []).getD k 0#64)):=(hri.cell k).trans (w64s_get _ _ (by rw [hwi];exact hlt))
         have gl:=hri.lt
         have hms:=inMix_set (inRows t p) k inL (HINL.out ()) (i:=i) (by rw [HRL.out];exact hli)
         have hml:=inMix_len (inRows t p) k inL i (HINL.out ()) (by rw [HRL.out];exact hi)
         rw [HRL.out] at hml
         have hic:wr.cell? ⟨ib,i,none⟩=some (w64 ((inMix (inRows t p) k inL i).getD i 0#64)):=(RI.out.cell i).trans (w64s_get _ _ (by rw [hml];exact hli))
         have hif:=RI.out.frozen i
         have hil:=RI.out.lt
         generalize gs.getD i 0=gi at ci ck gl
         generalize ((inRows t p).getD i []).getD k 0#64=x at ck hms
         have HMS:=hiD hms
         generalize (inMix (inRows t p) k inL i).getD i 0#64=oz at hic
         unfold w64 at ck hic
         clear hri hwi hms hml HOI9
         go_wp2_with fail
         go_roundg (N - (i+1))
         case measure=>omega
         case rel=>
          refine ⟨i+1,by omega,by omega,by go_num,BX.out.setCell (p:=⟨ib,i,none⟩) (by show w4.heap.size≤ib;omega) _,RO.out.far (p:=⟨ib,i,none⟩) (by show ob≠ib;omega) _,OW.out.farW (p:=⟨ib,i,none⟩) RI.out (fun j hj=>by rw [outK_len] at hj;have:=HGI.out j hj;show gs2.getD j 0≠ib;omega) _,?_⟩
          rw [← HMS.out,← w64s_setP]
          exact RI.out.set i (w64 x)
        ·have hliz:¬ (i:Int) < (N:Int):=by omega
         obtain rfl:N=i:=by omega
         have RI8:Hid (Row wr ib 66 (w64s (inAt (inRows t p) k))):=(by have h:=RI.out;rw [← HRL.out,inMix_all _ _ _ (HINL.out ())] at h;exact h)
         have BX8:Hid (Below w4.heap.size w4 wr):=BX.out
         have RO8:Hid (Row wr ob 42 [.int .i64 W,.int .i64 Hh,.int .i64 E,.slice (some ⟨ow,0,none⟩) n n]):=RO.out
         have OW8:Hid (POwn wr w4.heap.size (.slice (some ⟨ow,0,none⟩) n n) M gs2 (outK t p n M (k) (0))):=OW.out
         clear BX RO OW RI hgg2 hliz hli hi
         revert RI8 BX8 RO8 OW8
         generalize wr=w8
         intro RI8 BX8 RO8 OW8
         have BWr8:=hiD (below_on2 BW4.out BX8.out)
         have RE8:=hiD (rowCells RE.out BWr8.out)
         have hol:on=n:=by
          have h1:=(HEN.out.circ).ol
          rw [(circT_io HOK.out.ok.rt HOK.out.few).2,← HOK.out.nb,HWL.out] at h1
          exact h1.symm
         have HOKC:Hid (okC (circT t) N=true):=(by
          show _=true
          simp only [okC,Bool.and_eq_true,decide_eq_true_eq]
          exact ⟨circT_right HOK.out.ok.rt HOK.out.few,by rw [(circT_io HOK.out.ok.rt HOK.out.few).1,HNE.out ()]⟩)
         obtain ⟨e0,e1,e2,e3,e4,el⟩:=RE8.out.cells5
         go_wp2_with fail
         clear e0 e1 e2 e3 e4 el
         have HC:=words_ok (circT t) GA OA (some ⟨ib,0,none⟩) gn gc on oc N N (inAt (inRows t p) k) w8 (HEN.out.up BWr8.out).circ (Row.rd RI8.out (by rw [w64s_length,in_at_len,HRL.out];omega)) HOKC.out
         rw [hol] at HC
         have hwl0:(outsG evalW 0 (circT t) (inAt (inRows t p) k)).length=n:=by rw [← hol,← (HEN.out.circ).ol];simp [outsG]
         have HNW:Hid (∀ j,nextWord t p j k=(outsG evalW 0 (circT t) (inAt (inRows t p) k)).getD j 0#64 &&& maskF W k):=fun j=>by unfold nextWord;rw [HWT.out.1]
         generalize outsG evalW 0 (circT t) (inAt (inRows t p) k)=wl at HC hwl0 HNW
         have HWL0:=hiD hwl0
         refine HC.mono ?_
         clear HC hwl0
         rintro e w9 ⟨g,rfl,hrw,hg8,hb⟩
         have RG9:=hiD hrw
         have BX9:=hiD (below_on2 BX8.out hb)
         have RO9:=hiD (rowCells RO8.out hb)
         have OW9:Hid (POwn w9 w4.heap.size (.slice (some ⟨ow,0,none⟩) n n) M gs2 (outK t p n M (k) (0))):=OW8.out.up hb
         have RI9:=hiD (rowCells RI8.out hb)
         have HGG:Hid (∀ i,i < n→gs2.getD i 0 < w8.heap.size):=fun i hi=>(OW8.out.row i (by rw [outK_len];exact hi)).lt
         have hobg:ob < w8.heap.size:=RO8.out.lt
         have hibg:ib < w8.heap.size:=RI8.out.lt
         have HSZ8:Hid (w4.heap.size≤w8.heap.size):=BX8.out.size
         clear hrw hb BX8 RO8 OW8 RI8 RE8
         have RP9:=hiD (rowCells RP4.out BX9.out)
         obtain ⟨r,hr⟩:∃ r,r=W % 64:=⟨_,rfl⟩
         obtain ⟨km,hkm⟩:∃ km,km=k % nn:=⟨_,rfl⟩
         have hr1:((W:Int) % 64)=(r:Int):=by omega
         have hr2:Int.tmod (W:Int) 64=(r:Int):=by rw [Int.tmod_eq_emod_of_nonneg (by omega)];exact hr1
         have hk1:((k:Int) % (nn:Int))=(km:Int):=by rw [hkm];rfl
         have hk2:Int.tmod (k:Int) (nn:Int)=(km:Int):=by rw [Int.tmod_eq_emod_of_nonneg (by omega)];exact hk1
         have hn1:IntKind.i64.wrap ((nn:Int) - 1)=(nn:Int) - 1:=IntWalk.i64_in _ (by omega)
         have hr64:r < 64:=by omega
         have HRK:Hid (∀ _:Unit,r=W % 64∧km=k % wpr W∧nn=wpr W):=fun _=>⟨hr,by rw [HNN.out];exact hkm,HNN.out.symm⟩
         clear hr hkm
         by_cases c1:km+1=nn
         ·have q1:decide ((km:Int)=(nn:Int) - 1)=true:=decide_eq_true (by omega)
          have q2:((km:Int) == (nn:Int) - 1)=true:=by simp;omega
          by_cases c2:0 < r
          ·have q3:decide ((0:Int) < (r:Int))=true:=decide_eq_true (by omega)
           have hr3:min r 64=r:=by omega
           obtain ⟨k0,k1,k2,k3,kl⟩:=RP9.out.cells4
           have HMK:Hid (∀ x:BitVec 64,Value.int .u64 (bits .and .u64 (x.toNat:Int) (IntKind.u64.wrap (IntKind.u64.wrap ((2:Int) ^ r) - 1)))=w64 (x &&& maskF W k)):=fun x=>by rw [and_cell];unfold maskF;rw [if_pos (by have:=HRK.out ();omega),← (HRK.out ()).1]
           have HWR:Hid (∀ x:BitVec 64,IntKind.u64.wrap (bits .and .u64 (x.toNat:Int) (IntKind.u64.wrap (IntKind.u64.wrap ((2:Int) ^ r) - 1)))=bits .and .u64 (x.toNat:Int) (IntKind.u64.wrap (IntKind.u64.wrap ((2:Int) ^ r) - 1))):=fun x=>wrap_and x ((1#64 <<< r) - 1#64) _ (by rw [one_shl,w64_pred])
           go_wp2_with fail
           clear k0 k1 k2 k3 kl
           go_loopg [22,139] n (fun gg _ s139 wr=>∃ bb:Nat,bb≤n∧n - bb≤gg∧s139=.int .i64 bb∧Aside (Below w4.heap.size w4 wr)∧Aside (Row wr ob 42 [.int .i64 W,.int .i64 Hh,.int .i64 E,.slice (some ⟨ow,0,none⟩) n n])∧Aside (POwn wr w4.heap.size (.slice (some ⟨ow,0,none⟩) n n) M gs2 (outK t p n M (k) (bb)))∧Aside (Row wr ib 66 (w64s (inAt (inRows t p) k)))∧Aside (Row wr g 66 (w64s wl)))
           case atStart=>exact ⟨0,Nat.zero_le _,by omega,rfl,BX9.out,RO9.out,OW9.out,RI9.out,RG9.out⟩
           case round=>
            clear BX9 RO9 OW9 RI9 RG9 RP9
            obtain ⟨bb,hbb,hgg3,rfl,BX,RO,OW,RI,RG⟩:=hrel
            by_cases hlb:bb < n
            ·have hlbz:(bb:Int) < (n:Int):=by omega
             obtain ⟨ad,had,hab,cb⟩:=OW.out.elem (outK_len _ _ _ _ _ _) hlb
             cases had
             rw [add_zero_off] at cb
             have hrb:=OW.out.row bb (by rw [outK_len];exact hlb)
             have hwb:=OW.out.wid bb (by rw [outK_len];exact hlb)
             have cg:wr.cell? ⟨g,bb,none⟩=some (w64 (wl.getD bb 0#64)):=(RG.out.cell bb).trans (w64s_get _ _ (by rw [HWL0.out];exact hlb))
             have co:wr.cell? ⟨gs2.getD bb 0,k,none⟩=some (w64 (((outK t p n M k bb).getD bb []).getD k 0#64)):=(hrb.cell k).trans (w64s_get _ _ (by rw [hwb];exact hlt))
             have HPT:Hid (∀ W9 v,POwn W9 w4.heap.size (.slice (some ⟨ow,0,none⟩) n n) M gs2 (outK t p n M k bb)→v=w64 (nextWord t p bb k)→POwn (W9.setCell ⟨gs2.getD bb 0,k,none⟩ v) w4.heap.size (.slice (some ⟨ow,0,none⟩) n n) M gs2 (outK t p n M k (bb+1))):=fun W9 v h9 hv=>by
              rw [hv,← outK_put _ _ _ _ _ _ hlb hlt]
              exact h9.put bb k _ (by rw [outK_len];exact hlb)
             have hgb:=HGG.out bb hlb
             have hgi:=HGI.out bb hlb
             have hgw:w4.heap.size≤gs2.getD bb 0:=OW.out.bas bb (by rw [outK_len];exact hlb)
             have hfo:=hrb.frozen k
             have hlo:=hrb.lt
             have hlg:=RG.out.lt
             have HOLT:Hid (gs2.getD bb 0≠ob):=(by
              show _≠_
              intro e
              have h1:=hrb
              have h2:=RO.out
              unfold Row at h1 h2
              rw [e,h2] at h1
              injection h1 with h1
              injection h1 with _ ht
              exact absurd ht (by decide))
             have HVV:Hid (Value.int .u64 (bits .and .u64 ((wl.getD bb 0#64).toNat:Int) (IntKind.u64.wrap (IntKind.u64.wrap ((2:Int) ^ r) - 1)))=w64 (nextWord t p bb k)):=(by show _=_;rw [HNW.out bb];exact HMK.out _)
             generalize ((outK t p n M k bb).getD bb []).getD k 0#64=oz at co
             generalize wl.getD bb 0#64=x at cg HVV
             generalize gs2.getD bb 0=gb at cb co HPT hgb hgi hgw hfo hlo HOLT
             unfold w64 at cg co
             have hw9:IntKind.u64.wrap (bits .and .u64 (x.toNat:Int) (IntKind.u64.wrap (IntKind.u64.wrap ((2:Int) ^ r) - 1)))=bits .and .u64 (x.toNat:Int) (IntKind.u64.wrap (IntKind.u64.wrap ((2:Int) ^ r) - 1)):=HWR.out x
             have ROr:Hid (Row wr ob 42 [.int .i64 W,.int .i64 Hh,.int .i64 E,.slice (some ⟨ow,0,none⟩) n n]):=RO.out
             obtain ⟨j0,j1,j2,j3,jl⟩:=ROr.out.cells4
             clear hrb hwb
             go_wp2_with fail
             go_still_tail 13,(by kernel_rfl)
             change wpList _ _ _ _ _ wr.drew
             have BXd:Hid (Below w4.heap.size w4 wr.drew):=BX.out.drew
             have ROd:Hid (Row wr.drew ob 42 [.int .i64 W,.int .i64 Hh,.int .i64 E,.slice (some ⟨ow,0,none⟩) n n]):=RO.out
             have RId:Hid (Row wr.drew ib 66 (w64s (inAt (inRows t p) k))):=RI.out
             have RGd:Hid (Row wr.drew g 66 (w64s wl)):=RG.out
             have HPd:Hid (∀ v,v=w64 (nextWord t p bb k)→POwn (wr.drew.setCell ⟨gb,k,none⟩ v) w4.heap.size (.slice (some ⟨ow,0,none⟩) n n) M gs2 (outK t p n M k (bb+1))):=fun v hv=>HPT.out _ v OW.out.drew hv
             have co9:wr.drew.cell? ⟨gb,k,none⟩=some (.int .u64 (oz.toNat:Int)):=co
             have cf9:wr.drew.frozen? ⟨gb,k,none⟩=false:=hfo
             have cl9:gb < wr.drew.heap.size:=hlo
             clear BX RO RI RG HPT co hfo hlo cg cb j0 j1 j2 j3 jl ROr OW hab hlg
             revert BXd ROd RId RGd HPd co9 cf9 cl9
             generalize wr.drew=wz
             intro BXd ROd RId RGd HPd co9 cf9 cl9
             go_wp2_with fail
             go_roundg (n - (bb+1))
             case measure=>omega
             case rel=>exact ⟨bb+1,by omega,by omega,by go_num,BXd.out.setCell (p:=⟨gb,k,none⟩) hgw _,ROd.out.far (p:=⟨gb,k,none⟩) (by show ob≠gb;exact fun e=>HOLT.out e.symm) _,HPd.out _ HVV.out,RId.out.far (p:=⟨gb,k,none⟩) (by show ib≠gb;omega) _,RGd.out.far (p:=⟨gb,k,none⟩) (by show g≠gb;omega) _⟩
            ·have hlbz:¬ (bb:Int) < (n:Int):=by omega
             obtain rfl:n=bb:=by omega
             go_wp2_with fail
             go_roundg (M - (k+1))
             case measure=>omega
             case rel=>exact ⟨k+1,inAt (inRows t p) k,by omega,by omega,by go_num,by rw [in_at_len,HRL.out],BX.out,RO.out,(by have h:=OW.out;rw [outK_next] at h;exact h),RI.out⟩
          ·have q3:decide ((0:Int) < (r:Int))=false:=decide_eq_false (by omega)
           have q4:decide (0 < r)=false:=decide_eq_false c2
           obtain rfl:r=0:=by omega
           obtain ⟨k0,k1,k2,k3,kl⟩:=RP9.out.cells4
           have HMK:Hid (∀ x:BitVec 64,Value.int .u64 (bits .and .u64 (x.toNat:Int) 18446744073709551615)=w64 (x &&& maskF W k)):=fun x=>mask_all W k (by have:=HRK.out ();omega) x
           have HWR:Hid (∀ x:BitVec 64,IntKind.u64.wrap (bits .and .u64 (x.toNat:Int) (18446744073709551615))=bits .and .u64 (x.toNat:Int) (18446744073709551615)):=fun x=>wrap_and x (BitVec.allOnes 64) _ rfl
           go_wp2_with fail
           clear k0 k1 k2 k3 kl
           go_loopg [22,139] n (fun gg _ s139 wr=>∃ bb:Nat,bb≤n∧n - bb≤gg∧s139=.int .i64 bb∧Aside (Below w4.heap.size w4 wr)∧Aside (Row wr ob 42 [.int .i64 W,.int .i64 Hh,.int .i64 E,.slice (some ⟨ow,0,none⟩) n n])∧Aside (POwn wr w4.heap.size (.slice (some ⟨ow,0,none⟩) n n) M gs2 (outK t p n M (k) (bb)))∧Aside (Row wr ib 66 (w64s (inAt (inRows t p) k)))∧Aside (Row wr g 66 (w64s wl)))
           case atStart=>exact ⟨0,Nat.zero_le _,by omega,rfl,BX9.out,RO9.out,OW9.out,RI9.out,RG9.out⟩
           case round=>
            clear BX9 RO9 OW9 RI9 RG9 RP9
            obtain ⟨bb,hbb,hgg3,rfl,BX,RO,OW,RI,RG⟩:=hrel
            by_cases hlb:bb < n
            ·have hlbz:(bb:Int) < (n:Int):=by omega
             obtain ⟨ad,had,hab,cb⟩:=OW.out.elem (outK_len _ _ _ _ _ _) hlb
             cases had
             rw [add_zero_off] at cb
             have hrb:=OW.out.row bb (by rw [outK_len];exact hlb)
             have hwb:=OW.out.wid bb (by rw [outK_len];exact hlb)
             have cg:wr.cell? ⟨g,bb,none⟩=some (w64 (wl.getD bb 0#64)):=(RG.out.cell bb).trans (w64s_get _ _ (by rw [HWL0.out];exact hlb))
             have co:wr.cell? ⟨gs2.getD bb 0,k,none⟩=some (w64 (((outK t p n M k bb).getD bb []).getD k 0#64)):=(hrb.cell k).trans (w64s_get _ _ (by rw [hwb];exact hlt))
             have HPT:Hid (∀ W9 v,POwn W9 w4.heap.size (.slice (some ⟨ow,0,none⟩) n n) M gs2 (outK t p n M k bb)→v=w64 (nextWord t p bb k)→POwn (W9.setCell ⟨gs2.getD bb 0,k,none⟩ v) w4.heap.size (.slice (some ⟨ow,0,none⟩) n n) M gs2 (outK t p n M k (bb+1))):=fun W9 v h9 hv=>by
              rw [hv,← outK_put _ _ _ _ _ _ hlb hlt]
              exact h9.put bb k _ (by rw [outK_len];exact hlb)
             have hgb:=HGG.out bb hlb
             have hgi:=HGI.out bb hlb
             have hgw:w4.heap.size≤gs2.getD bb 0:=OW.out.bas bb (by rw [outK_len];exact hlb)
             have hfo:=hrb.frozen k
             have hlo:=hrb.lt
             have hlg:=RG.out.lt
             have HOLT:Hid (gs2.getD bb 0≠ob):=(by
              show _≠_
              intro e
              have h1:=hrb
              have h2:=RO.out
              unfold Row at h1 h2
              rw [e,h2] at h1
              injection h1 with h1
              injection h1 with _ ht
              exact absurd ht (by decide))
             have HVV:Hid (Value.int .u64 (bits .and .u64 ((wl.getD bb 0#64).toNat:Int) (18446744073709551615))=w64 (nextWord t p bb k)):=(by show _=_;rw [HNW.out bb];exact HMK.out _)
             generalize ((outK t p n M k bb).getD bb []).getD k 0#64=oz at co
             generalize wl.getD bb 0#64=x at cg HVV
             generalize gs2.getD bb 0=gb at cb co HPT hgb hgi hgw hfo hlo HOLT
             unfold w64 at cg co
             have hw9:IntKind.u64.wrap (bits .and .u64 (x.toNat:Int) (18446744073709551615))=bits .and .u64 (x.toNat:Int) (18446744073709551615):=HWR.out x
             have ROr:Hid (Row wr ob 42 [.int .i64 W,.int .i64 Hh,.int .i64 E,.slice (some ⟨ow,0,none⟩) n n]):=RO.out
             obtain ⟨j0,j1,j2,j3,jl⟩:=ROr.out.cells4
             clear hrb hwb
             go_wp2_with fail
             go_still_tail 13,(by kernel_rfl)
             change wpList _ _ _ _ _ wr.drew
             have BXd:Hid (Below w4.heap.size w4 wr.drew):=BX.out.drew
             have ROd:Hid (Row wr.drew ob 42 [.int .i64 W,.int .i64 Hh,.int .i64 E,.slice (some ⟨ow,0,none⟩) n n]):=RO.out
             have RId:Hid (Row wr.drew ib 66 (w64s (inAt (inRows t p) k))):=RI.out
             have RGd:Hid (Row wr.drew g 66 (w64s wl)):=RG.out
             have HPd:Hid (∀ v,v=w64 (nextWord t p bb k)→POwn (wr.drew.setCell ⟨gb,k,none⟩ v) w4.heap.size (.slice (some ⟨ow,0,none⟩) n n) M gs2 (outK t p n M k (bb+1))):=fun v hv=>HPT.out _ v OW.out.drew hv
             have co9:wr.drew.cell? ⟨gb,k,none⟩=some (.int .u64 (oz.toNat:Int)):=co
             have cf9:wr.drew.frozen? ⟨gb,k,none⟩=false:=hfo
             have cl9:gb < wr.drew.heap.size:=hlo
             clear BX RO RI RG HPT co hfo hlo cg cb j0 j1 j2 j3 jl ROr OW hab hlg
             revert BXd ROd RId RGd HPd co9 cf9 cl9
             generalize wr.drew=wz
             intro BXd ROd RId RGd HPd co9 cf9 cl9
             go_wp2_with fail
             go_roundg (n - (bb+1))
             case measure=>omega
             case rel=>exact ⟨bb+1,by omega,by omega,by go_num,BXd.out.setCell (p:=⟨gb,k,none⟩) hgw _,ROd.out.far (p:=⟨gb,k,none⟩) (by show ob≠gb;exact fun e=>HOLT.out e.symm) _,HPd.out _ HVV.out,RId.out.far (p:=⟨gb,k,none⟩) (by show ib≠gb;omega) _,RGd.out.far (p:=⟨gb,k,none⟩) (by show g≠gb;omega) _⟩
            ·have hlbz:¬ (bb:Int) < (n:Int):=by omega
             obtain rfl:n=bb:=by omega
             go_wp2_with fail
             go_roundg (M - (k+1))
             case measure=>omega
             case rel=>exact ⟨k+1,inAt (inRows t p) k,by omega,by omega,by go_num,by rw [in_at_len,HRL.out],BX.out,RO.out,(by have h:=OW.out;rw [outK_next] at h;exact h),RI.out⟩
         ·have q1:decide ((km:Int)=(nn:Int) - 1)=false:=decide_eq_false (by omega)
          have q2:((km:Int) == (nn:Int) - 1)=false:=by simp;omega
          obtain ⟨k0,k1,k2,k3,kl⟩:=RP9.out.cells4
          have HMK:Hid (∀ x:BitVec 64,Value.int .u64 (bits .and .u64 (x.toNat:Int) 18446744073709551615)=w64 (x &&& maskF W k)):=fun x=>mask_all W k (by have:=HRK.out ();omega) x
          have HWR:Hid (∀ x:BitVec 64,IntKind.u64.wrap (bits .and .u64 (x.toNat:Int) (18446744073709551615))=bits .and .u64 (x.toNat:Int) (18446744073709551615)):=fun x=>wrap_and x (BitVec.allOnes 64) _ rfl
          go_wp2_with fail
          clear k0 k1 k2 k3 kl
          go_loopg [22,139] n (fun gg _ s139 wr=>∃ bb:Nat,bb≤n∧n - bb≤gg∧s139=.int .i64 bb∧Aside (Below w4.heap.size w4 wr)∧Aside (Row wr ob 42 [.int .i64 W,.int .i64 Hh,.int .i64 E,.slice (some ⟨ow,0,none⟩) n n])∧Aside (POwn wr w4.heap.size (.slice (some ⟨ow,0,none⟩) n n) M gs2 (outK t p n M (k) (bb)))∧Aside (Row wr ib 66 (w64s (inAt (inRows t p) k)))∧Aside (Row wr g 66 (w64s wl)))
          case atStart=>exact ⟨0,Nat.zero_le _,by omega,rfl,BX9.out,RO9.out,OW9.out,RI9.out,RG9.out⟩
          case round=>
           clear BX9 RO9 OW9 RI9 RG9 RP9
           obtain ⟨bb,hbb,hgg3,rfl,BX,RO,OW,RI,RG⟩:=hrel
           by_cases hlb:bb < n
           ·have hlbz:(bb:Int) < (n:Int):=by omega
            obtain ⟨ad,had,hab,cb⟩:=OW.out.elem (outK_len _ _ _ _ _ _) hlb
            cases had
            rw [add_zero_off] at cb
            have hrb:=OW.out.row bb (by rw [outK_len];exact hlb)
            have hwb:=OW.out.wid bb (by rw [outK_len];exact hlb)
            have cg:wr.cell? ⟨g,bb,none⟩=some (w64 (wl.getD bb 0#64)):=(RG.out.cell bb).trans (w64s_get _ _ (by rw [HWL0.out];exact hlb))
            have co:wr.cell? ⟨gs2.getD bb 0,k,none⟩=some (w64 (((outK t p n M k bb).getD bb []).getD k 0#64)):=(hrb.cell k).trans (w64s_get _ _ (by rw [hwb];exact hlt))
            have HPT:Hid (∀ W9 v,POwn W9 w4.heap.size (.slice (some ⟨ow,0,none⟩) n n) M gs2 (outK t p n M k bb)→v=w64 (nextWord t p bb k)→POwn (W9.setCell ⟨gs2.getD bb 0,k,none⟩ v) w4.heap.size (.slice (some ⟨ow,0,none⟩) n n) M gs2 (outK t p n M k (bb+1))):=fun W9 v h9 hv=>by
             rw [hv,← outK_put _ _ _ _ _ _ hlb hlt]
             exact h9.put bb k _ (by rw [outK_len];exact hlb)
            have hgb:=HGG.out bb hlb
            have hgi:=HGI.out bb hlb
            have hgw:w4.heap.size≤gs2.getD bb 0:=OW.out.bas bb (by rw [outK_len];exact hlb)
            have hfo:=hrb.frozen k
            have hlo:=hrb.lt
            have hlg:=RG.out.lt
            have HOLT:Hid (gs2.getD bb 0≠ob):=(by
             show _≠_
             intro e
             have h1:=hrb
             have h2:=RO.out
             unfold Row at h1 h2
             rw [e,h2] at h1
             injection h1 with h1
             injection h1 with _ ht
             exact absurd ht (by decide))
            have HVV:Hid (Value.int .u64 (bits .and .u64 ((wl.getD bb 0#64).toNat:Int) (18446744073709551615))=w64 (nextWord t p bb k)):=(by show _=_;rw [HNW.out bb];exact HMK.out _)
            generalize ((outK t p n M k bb).getD bb []).getD k 0#64=oz at co
            generalize wl.getD bb 0#64=x at cg HVV
            generalize gs2.getD bb 0=gb at cb co HPT hgb hgi hgw hfo hlo HOLT
            unfold w64 at cg co
            have hw9:IntKind.u64.wrap (bits .and .u64 (x.toNat:Int) (18446744073709551615))=bits .and .u64 (x.toNat:Int) (18446744073709551615):=HWR.out x
            have ROr:Hid (Row wr ob 42 [.int .i64 W,.int .i64 Hh,.int .i64 E,.slice (some ⟨ow,0,none⟩) n n]):=RO.out
            obtain ⟨j0,j1,j2,j3,jl⟩:=ROr.out.cells4
            clear hrb hwb
            go_wp2_with fail
            go_still_tail 13,(by kernel_rfl)
            change wpList _ _ _ _ _ wr.drew
            have BXd:Hid (Below w4.heap.size w4 wr.drew):=BX.out.drew
            have ROd:Hid (Row wr.drew ob 42 [.int .i64 W,.int .i64 Hh,.int .i64 E,.slice (some ⟨ow,0,none⟩) n n]):=RO.out
            have RId:Hid (Row wr.drew ib 66 (w64s (inAt (inRows t p) k))):=RI.out
            have RGd:Hid (Row wr.drew g 66 (w64s wl)):=RG.out
            have HPd:Hid (∀ v,v=w64 (nextWord t p bb k)→POwn (wr.drew.setCell ⟨gb,k,none⟩ v) w4.heap.size (.slice (some ⟨ow,0,none⟩) n n) M gs2 (outK t p n M k (bb+1))):=fun v hv=>HPT.out _ v OW.out.drew hv
            have co9:wr.drew.cell? ⟨gb,k,none⟩=some (.int .u64 (oz.toNat:Int)):=co
            have cf9:wr.drew.frozen? ⟨gb,k,none⟩=false:=hfo
            have cl9:gb < wr.drew.heap.size:=hlo
            clear BX RO RI RG HPT co hfo hlo cg cb j0 j1 j2 j3 jl ROr OW hab hlg
            revert BXd ROd RId RGd HPd co9 cf9 cl9
            generalize wr.drew=wz
            intro BXd ROd RId RGd HPd co9 cf9 cl9
            go_wp2_with fail
            go_roundg (n - (bb+1))
            case measure=>omega
            case rel=>exact ⟨bb+1,by omega,by omega,by go_num,BXd.out.setCell (p:=⟨gb,k,none⟩) hgw _,ROd.out.far (p:=⟨gb,k,none⟩) (by show ob≠gb;exact fun e=>HOLT.out e.symm) _,HPd.out _ HVV.out,RId.out.far (p:=⟨gb,k,none⟩) (by show ib≠gb;omega) _,RGd.out.far (p:=⟨gb,k,none⟩) (by show g≠gb;omega) _⟩
           ·have hlbz:¬ (bb:Int) < (n:Int):=by omega
            obtain rfl:n=bb:=by omega
            go_wp2_with fail
            go_roundg (M - (k+1))
            case measure=>omega
            case rel=>exact ⟨k+1,inAt (inRows t p) k,by omega,by omega,by go_num,by rw [in_at_len,HRL.out],BX.out,RO.out,(by have h:=OW.out;rw [outK_next] at h;exact h),RI.out⟩
      ·have hlz:¬ (k:Int) < (M:Int):=by omega
       obtain rfl:M=k:=by omega
       have RPr:=hiD (rowCells RP4.out BX.out)
       have RZr:=hiD (rowCells RZ4.out BX.out)
       have ROr:Hid (Row wr ob 42 [.int .i64 W,.int .i64 Hh,.int .i64 E,.slice (some ⟨ow,0,none⟩) n n]):=RO.out
       have BWr:=hiD (below_on2 BW4.out BX.out)
       have OWr:Hid (POwn wr w4.heap.size (.slice (some ⟨ow,0,none⟩) n n) M gs2 (nextPl t p).words):=(by
        have h:=OW.out
        rw [← HWL.out,outK_all t p M (by rw [HWT.out.1,HWT.out.2,HNN.out,HMM.out,Nat.mul_comm])] at h
        rw [← HWL.out];exact h)
       have HNL:Hid ((nextPl t p).words.length=n):=(by show _=_;rw [next_len];exact HWL.out)
       clear OW RO BX RI hgg hlz hlt hk
       obtain ⟨j0,j1,j2,j3,jl⟩:=ROr.out.cells4
       obtain ⟨z0,z1,z2,z3,zl⟩:=RZr.out.cells4
       obtain ⟨zf0,zf1,zf2,zf3⟩:=RZr.out.froz4
       go_wp2_with fail
       have Z9:=RZr.out.set4 (.int .i64 W) (.int .i64 Hh) (.int .i64 E) (.slice (some ⟨ow,0,none⟩) n n)
       have B9:=bSet4 BWr.out (w.heap.size+1) (by show w.heap.size≤w.heap.size+1;omega) (.int .i64 W) (.int .i64 Hh) (.int .i64 E) (.slice (some ⟨ow,0,none⟩) n n)
       have P9:=OWr.out.far4 (.int .i64 W) (.int .i64 Hh) (.int .i64 E) (.slice (some ⟨ow,0,none⟩) n n) RZr.out (by decide) (by omega)
       obtain ⟨d0,d1,d2,d3,-⟩:=Z9.cells4
       clear Z9
       refine bodyPost_ret (v:=.tuple #[.agg #[.int .i64 W,.int .i64 Hh,.int .i64 E,.slice (some ⟨ow,0,none⟩) n n],.int .i64 0]) (by simp [results,Try.results39,go_sem,d0,d1,d2,d3]) rfl ?_
       refine ⟨some ⟨ow,0,none⟩,n,n,M,gs2,?_,P9.base (by omega),⟨HNL.out,hn13.2,hMb⟩,B9⟩
       show _=Ending.returned (.tuple #[.agg #[.int .i64 p.w,.int .i64 p.h,.int .i64 p.edge,.slice (some ⟨ow,0,none⟩) n n],.int .i64 0])
       rw [HW.out,HH.out,HE.out]
end Go.Proofs.Ytiemhbogbaamlaa
