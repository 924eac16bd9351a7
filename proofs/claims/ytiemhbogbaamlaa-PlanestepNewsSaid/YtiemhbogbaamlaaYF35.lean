/-
 A part.
-/
import Derived.Test.YtiemhbogbaamlaaYF1
import Derived.Test.YtiemhbogbaamlaaYF32
import Derived.Test.YtiemhbogbaamlaaYF33
import Derived.Test.YtiemhbogbaamlaaYF12
import Derived.Test.YtiemhbogbaamlaaYF34
import Derived.Test.YtiemhbogbaamlaaYF28
set_option linter.unusedSimpArgs false
set_option linter.unusedVariables false
namespace Go.Proofs.Ytiemhbogbaamlaa
open Go.RowKit
theorem rRightZ_at (c:Circ) (GA OA:Option Addr) (gn gc on oc:Nat) (w:World) (h:CAt w c GA OA gn on):
 Calls Try.prog 62 #[.agg #[.int .i64 c.inputs,.slice GA gn gc,.slice OA on oc]] w fun e w'=>e=.returned (.bool (rightC c))∧Below w.heap.size w w':=
 rRight_any c.inputs GA OA gn gc on oc c.gates c.outs w h.gates h.outs h.g63 h.o63
set_option maxRecDepth 100000 in
set_option maxHeartbeats 8000000 in
theorem rFold_any (c:Circ) (GA OA:Option Addr) (gn gc on oc:Nat) (w:World) (hc:CAt w c GA OA gn on):
 Calls Try.prog 65 #[.agg #[.int .i64 c.inputs,.slice GA gn gc,.slice OA on oc]] w (CiPost (foldC c) w.heap.size w):=by
 have HC0:Hid (CAt w c GA OA gn on):=hc
 have HGL:Hid (∀ _:Unit,c.gates.length=gn):=fun _=>hc.gl
 have HOL:Hid (∀ _:Unit,c.outs.length=on):=fun _=>hc.ol
 clear hc
 go_enter Try.func65,Try.ntmps65
 go_wp2_with fail
 obtain ⟨wa,hW9,RC,RR,hgr9⟩:=laid2 w [.int .i64 c.inputs,.slice GA gn gc,.slice OA on oc] 37 [.int .i64 0,.slice none 0 0,.slice none 0 0] 37
 rewrite [hW9]
 clear hW9
 have B_w:=hiD hgr9
 clear hgr9
 have hwa:w.heap.size+1 < wa.heap.size:=RR.out.lt
 obtain ⟨q,hq⟩:∃ q,rightC c=q:=⟨_,rfl⟩
 have HQ:=hiU hq
 have HC:=rRightZ_at c GA OA gn gc on oc wa (HC0.out.up B_w.out)
 rw [hq] at HC
 clear hq
 refine HC.mono ?_
 clear HC
 rintro e w1 ⟨rfl,hb⟩
 have B_w:=hiD (below_on2 B_w.out hb)
 have B_wa:Hid (Below wa.heap.size wa w1):=hb
 clear hb
 have RR1:=hiD (rowCells RR.out B_wa.out)
 have RC1:=hiD (rowCells RC.out B_wa.out)
 have BW1:Hid (Below w.heap.size w w1):=B_w
 have hs1:w.heap.size+1 < w1.heap.size:=RR1.out.lt
 clear B_w B_wa RC RR hwa
 cases q
 ·skip
  obtain ⟨z0,z1,z2,zl⟩:=RR1.out.cells3
  obtain ⟨zf0,zf1,zf2⟩:=RR1.out.froz3
  go_wp2
  have Z9:=RR1.out.set3 (.int .i64 0) (.slice none 0 0) (.slice none 0 0)
  have B9:=bSet3 BW1.out (w.heap.size+1) (by show _≤(w.heap.size+1);omega) (.int .i64 0) (.slice none 0 0) (.slice none 0 0)
  obtain ⟨d0,d1,d2,-⟩:=Z9.cells3
  clear Z9
  refine bodyPost_ret (v:=.agg #[.int .i64 0,.slice none 0 0,.slice none 0 0]) (by simp [results,Try.results65,go_sem,d0,d1,d2]) rfl ?_
  have HV:foldC c=noCirc:=by unfold foldC;rw [if_neg (by rw [HQ.out ()];decide)]
  rw [HV]
  exact ⟨none,none,0,0,0,0,rfl,noCirc_at _,.none,.none,B9⟩
 have HR:Hid (rightC c=true):=HQ.out ()
 obtain ⟨⟨hn0,hn1,hg0,ho0⟩,_⟩:=rightC_parts HR.out
 rw [HGL.out ()] at hg0
 rw [HOL.out ()] at ho0
 clear HQ
 obtain ⟨k0,k1,k2,kl⟩:=RC1.out.cells3
 go_wp2_with fail
 clear k0 k1 k2 kl
 refine (rCop_any c.inputs GA OA gn gc on oc w1 ⟨hn0,hn1⟩ hg0 (c.inputs.toNat+gn) (by omega)).mono ?_
 rintro e w2 ⟨TA,tc,rfl,hown,hb⟩
 have HA2:Hid (ASt w2 w1.heap.size TA tc (c.inputs.toNat+gn) (idW (c.inputs.toNat+gn))):=hown
 have HB2:Hid (Below w1.heap.size w1 w2):=hb
 clear hown hb
 go_upto_region 4 with fail
 have OS0:Hid (OSt (World.alloc w2 (.cells #[.int .i64 c.inputs,.slice none 0 0,.slice none 0 0] 37)) w1.heap.size w2.heap.size c.inputs [] (.slice none 0 0)):=⟨.slice none 0 0,Row.new w2 37 [.int .i64 c.inputs,.slice none 0 0,.slice none 0 0],World.ownsRow_nil _ _ _ _,HB2.out.size⟩
 have AS0:Hid (ASt (World.alloc w2 (.cells #[.int .i64 c.inputs,.slice none 0 0,.slice none 0 0] 37)) w1.heap.size TA tc (c.inputs.toNat+gn) (idW (c.inputs.toNat+gn))):=HA2.out.below ((Below.refl _ _).alloc (Nat.le_refl _) _)
 have BX3:Hid (Below w1.heap.size w1 (World.alloc w2 (.cells #[.int .i64 c.inputs,.slice none 0 0,.slice none 0 0] 37))):=HB2.out.alloc HB2.out.size _
 have hob:w1.heap.size≤w2.heap.size:=HB2.out.size
 clear HA2 HB2
 revert OS0 AS0 BX3 hob
 generalize (World.alloc w2 (.cells #[.int .i64 c.inputs,.slice none 0 0,.slice none 0 0] 37))=w3
 generalize w2.heap.size=ob
 intro OS0 AS0 BX3 hob
 have HN0:Hid (c.inputs.toNat+gn=c.inputs.toNat+gn):=rfl
 go_wp2_with fail
 go_loopg [5,6,7] gn (fun gg s5 _ _ wr=>∃ k:Nat,k≤gn∧gn - k≤gg∧s5=.int .i64 k∧ob < wr.heap.size∧Aside (Below w1.heap.size w1 wr)∧Aside (OSt wr w1.heap.size ob c.inputs (foldTo c k).gates (.slice none 0 0))∧Aside (ASt wr w1.heap.size TA tc (c.inputs.toNat+gn) (aliasL (foldTo c k) c.inputs k (gn - k))))
 case atStart=>
  refine ⟨0,Nat.zero_le _,by omega,rfl,OS0.out.blk.1,BX3.out,OS0.out,?_⟩
  show ASt _ _ _ _ _ (aliasL (startW c.inputs) c.inputs 0 gn)
  rw [alias_start _ hn0];exact AS0.out
 case round=>
  clear OS0 AS0 BX3
  obtain ⟨k,hk,hgg,rfl,hsz,BX,OS,AS⟩:=hrel
  have BW:=hiD (below_on2 BW1.out BX.out)
  have RCn:=hiD (rowCells RC1.out BX.out)
  have hszr:=BX.out.size
  by_cases hlt:k < gn
  ·have hlz:(k:Int) < (gn:Int):=by omega
   have hkc:k < c.gates.length:=by rw [HGL.out ()];exact hlt
   obtain ⟨ad,rfl,hab,c0,c1,c2⟩:=(HC0.out.up BW1.out).gates.gate hlt
   obtain ⟨l1,l2⟩:=foldTo_len c k
   have hso:=foldTo_ok HR.out k (by omega)
   have hgo:=gateAt_ok HR.out hkc
   have hmo:=moveG_ok hso hgo (by omega) (fun _=>trivial) (fun _=>trivial)
   have hmv2:=alias_move (m:=gn - k) hn0 l2 hgo
   obtain ⟨g1,g2⟩:=gate_ok_ops hgo
   have hst:foldTo c (k+1)=addW c.inputs (foldTo c k) (foldG c.inputs (foldTo c k).gates (moveG (foldTo c k).to (gateAt c k))):=rfl
   change w1.cell? _=some (.int .i64 (gateAt c k).op) at c0
   change w1.cell? _=some (.int .i64 (gateAt c k).a) at c1
   change w1.cell? _=some (.int .i64 (gateAt c k).b) at c2
   generalize gateAt c k=g at c0 c1 c2 hgo hmo g1 g2 hst hmv2
   have hal:=alias_add (m:=gn - (k+1)) l2 l1 (foldG c.inputs (foldTo c k).gates (moveG (foldTo c k).to g))
   have hgk:gn - (k+1)+1=gn - k:=by omega
   rw [hgk,← hst] at hal
   generalize foldTo c k=s at OS AS l1 l2 hso hmo hst hmv2 hal
   obtain ⟨h,hh⟩:∃ h,moveG s.to g=h:=⟨_,rfl⟩
   rw [hh] at hmo hst hmv2 hal
   obtain ⟨op,x,y⟩:=h
   obtain ⟨p,hp⟩:∃ p,foldG c.inputs s.gates ⟨op,x,y⟩=p:=⟨_,rfl⟩
   rw [hp] at hst hal
   obtain ⟨⟨po,pa,pb⟩,pz⟩:=p
   have HFG:=hiU hp
   have HMV:=hiU hmv2
   have HMO:Hid (gateOk (c.inputs+(s.gates.length:Int)) ⟨op,x,y⟩=true):=hmo
   have HGT:Hid (∀ _:Unit,(foldTo c (k+1)).gates=s.gates ++ [⟨po,pa,pb⟩]):=fun _=>by rw [hst];rfl
   have HAN:=hiU hal
   have HGA:Hid ((1≤operandsO g.op→0≤g.a∧g.a < ((c.inputs.toNat+gn:Nat):Int))∧(operandsO g.op=2→0≤g.b∧g.b < ((c.inputs.toNat+gn:Nat):Int))):=⟨fun q=>by have:=g1 q;omega,fun q=>by have:=g2 q;omega⟩
   have HCELL:Hid (∀ W9,Below w1.heap.size w1 W9→W9.cell? (ad.add (k * 3))=some (.int .i64 g.op)∧W9.cell? ⟨(ad.add (k * 3)).block,(ad.add (k * 3)).off+1,none⟩=some (.int .i64 g.a)∧W9.cell? ⟨(ad.add (k * 3)).block,(ad.add (k * 3)).off+2,none⟩=some (.int .i64 g.b)):=fun W9 h9=>⟨(h9.cell (by rw [add_block];exact hab)).trans c0,(h9.cell (by show (ad.add (k * 3)).block < _;rw [add_block];exact hab)).trans c1,(h9.cell (by show (ad.add (k * 3)).block < _;rw [add_block];exact hab)).trans c2⟩
   have hgl:s.gates.length≤20000:=by omega
   clear l1 l2 hso hgo hmo g1 g2 hh hkc hp hst hal hmv2 hgk c0 c1 c2 hab
   obtain ⟨KA,kc,hro,hog⟩:=OS.out.op
   obtain ⟨k0,k1,k2,kl⟩:=RCn.out.cells3
   go_upto_region 7 with fail
   clear k0 k1 k2 kl
   have RCr:Hid (Row wr w.heap.size 37 [.int .i64 c.inputs,.slice (some ad) gn gc,.slice OA on oc]):=RCn.out
   have ROr:Hid (Row wr ob 37 [.int .i64 c.inputs,.slice KA s.gates.length kc,.slice none 0 0]):=hro
   have OGr:Hid (World.ownsRow wr w1.heap.size 77 3 (.slice KA s.gates.length kc) s.gates.length (gatesCells s.gates)):=hog
   have ASr:Hid (ASt wr w1.heap.size TA tc (c.inputs.toNat+gn) (aliasL s c.inputs k (gn - k))):=AS.out
   have BXr:Hid (Below w1.heap.size w1 wr):=BX.out
   have HOGO:Hid (∀ q,(Value.slice KA s.gates.length kc).ownBlock=some q→q < wr.heap.size):=fun q hq=>(hog.lt q hq).2
   clear RCn hro hog AS BX OS BW
   refine wp_region_L (fun w'=>Row w' w.heap.size 37 [.int .i64 c.inputs,.slice (some ad) gn gc,.slice OA on oc]∧Row w' ob 37 [.int .i64 c.inputs,.slice KA s.gates.length kc,.slice none 0 0]∧w'.cell? (ad.add (k * 3))=some (.int .i64 g.op)∧w'.cell? ⟨(ad.add (k * 3)).block,(ad.add (k * 3)).off+1,none⟩=some (.int .i64 g.a)∧w'.cell? ⟨(ad.add (k * 3)).block,(ad.add (k * 3)).off+2,none⟩=some (.int .i64 g.b)) [13] (by kernel_rfl) (by exact ⟨RCr.out.drew,ROr.out.drew,HCELL.out _ BXr.out.drew⟩) (fun hHeld=>?_)
   have RCv0:Hid (Row (World.drew wr) w.heap.size 37 [.int .i64 c.inputs,.slice (some ad) gn gc,.slice OA on oc]):=RCr.out.drew
   have ROv0:Hid (Row (World.drew wr) ob 37 [.int .i64 c.inputs,.slice KA s.gates.length kc,.slice none 0 0]):=ROr.out.drew
   have OGv0:Hid (World.ownsRow (World.drew wr) w1.heap.size 77 3 (.slice KA s.gates.length kc) s.gates.length (gatesCells s.gates)):=OGr.out
   have ASv0:Hid (ASt (World.drew wr) w1.heap.size TA tc (c.inputs.toNat+gn) (aliasL s c.inputs k (gn - k))):=ASr.out
   have BXv0:Hid (Below w1.heap.size w1 (World.drew wr)):=BXr.out.drew
   clear RCr ROr OGr ASr BXr
   revert hHeld RCv0 ROv0 OGv0 ASv0 BXv0
   generalize World.drew wr=v0
   intro hHeld RCv0 ROv0 OGv0 ASv0 BXv0
   refine lPureW 1 ?va1 rfl (by rfl) ?ya1 ?ra1
   case ya1=>intro w' hSw;clear hSw;go_simp;try (with_reducible rfl)
   go_simp
   refine lPureW 3 ?va2 rfl (by rfl) ?ya2 ?ra2
   case ya2=>intro w' hSw;clear hSw;go_simp;try (with_reducible rfl)
   go_simp
   refine lPureW 6 ?va3 rfl (by rfl) ?ya3 ?ra3
   case ya3=>intro w' hSw;clear hSw;go_simp;try (with_reducible rfl)
   go_simp
   refine lTakeW 0 ?va4 [[13]] rfl (by rfl) ?ya4 hHeld ?ra4
   case ya4=>
    intro w' hSw
    have hS1:Hid (Row w' w.heap.size 37 [.int .i64 c.inputs,.slice (some ad) gn gc,.slice OA on oc]):=hSw.1
    have hS2:Hid (Row w' ob 37 [.int .i64 c.inputs,.slice KA s.gates.length kc,.slice none 0 0]):=hSw.2.1
    obtain ⟨c0,c1,c2⟩:=hSw.2.2
    clear hSw
    obtain ⟨u0,u1,u2,ul⟩:=hS1.out.cells3
    obtain ⟨v0,v1,v2,vl⟩:=hS2.out.cells3
    go_simp
    try (with_reducible rfl)
   go_simp
   refine lTakeW 2 ?va5 [[13]] rfl (by rfl) ?ya5 hHeld ?ra5
   case ya5=>
    intro w' hSw
    have hS1:Hid (Row w' w.heap.size 37 [.int .i64 c.inputs,.slice (some ad) gn gc,.slice OA on oc]):=hSw.1
    have hS2:Hid (Row w' ob 37 [.int .i64 c.inputs,.slice KA s.gates.length kc,.slice none 0 0]):=hSw.2.1
    obtain ⟨c0,c1,c2⟩:=hSw.2.2
    clear hSw
    obtain ⟨u0,u1,u2,ul⟩:=hS1.out.cells3
    obtain ⟨v0,v1,v2,vl⟩:=hS2.out.cells3
    go_simp
    try (with_reducible rfl)
   go_simp
   refine lTakeW 4 ?va6 [[13]] rfl (by rfl) ?ya6 hHeld ?ra6
   case ya6=>
    intro w' hSw
    have hS1:Hid (Row w' w.heap.size 37 [.int .i64 c.inputs,.slice (some ad) gn gc,.slice OA on oc]):=hSw.1
    have hS2:Hid (Row w' ob 37 [.int .i64 c.inputs,.slice KA s.gates.length kc,.slice none 0 0]):=hSw.2.1
    obtain ⟨c0,c1,c2⟩:=hSw.2.2
    clear hSw
    obtain ⟨u0,u1,u2,ul⟩:=hS1.out.cells3
    obtain ⟨v0,v1,v2,vl⟩:=hS2.out.cells3
    go_simp
    try (with_reducible rfl)
   go_simp
   refine lTakeW 5 ?va7 [[13]] rfl (by rfl) ?ya7 hHeld ?ra7
   case ya7=>
    intro w' hSw
    have hS1:Hid (Row w' w.heap.size 37 [.int .i64 c.inputs,.slice (some ad) gn gc,.slice OA on oc]):=hSw.1
    have hS2:Hid (Row w' ob 37 [.int .i64 c.inputs,.slice KA s.gates.length kc,.slice none 0 0]):=hSw.2.1
    obtain ⟨c0,c1,c2⟩:=hSw.2.2
    clear hSw
    obtain ⟨u0,u1,u2,ul⟩:=hS1.out.cells3
    obtain ⟨v0,v1,v2,vl⟩:=hS2.out.cells3
    go_simp
    try (with_reducible rfl)
   go_simp
   refine restL_two (i:=7) (j:=12) (by kernel_rfl) rfl rfl (fun K hK=>?_) (fun K hK=>?_)
   ·go_simp
    go_at_call 97
    have HC:=rRepl_any g (aliasL s c.inputs k (gn - k)) TA (c.inputs.toNat+gn) tc v0 ASv0.out.rd (by omega) HGA.out.1 HGA.out.2
    rw [HMV.out ()] at HC
    refine HC.mono ?_
    clear HC
    rintro e v1 ⟨rfl,hb⟩
    have RCv1:=hiD (rowCells RCv0.out hb)
    have ROv1:=hiD (rowCells ROv0.out hb)
    have OGv1:Hid (World.ownsRow v1 w1.heap.size 77 3 (.slice KA s.gates.length kc) s.gates.length (gatesCells s.gates)):=own_below OGv0.out hb (Nat.le_refl _)
    have ASv1:Hid (ASt v1 w1.heap.size TA tc (c.inputs.toNat+gn) (aliasL s c.inputs k (gn - k))):=own_below ASv0.out hb (Nat.le_refl _)
    have BXv1:=hiD (below_on2 BXv0.out hb)
    clear hHeld RCv0 ROv0 OGv0 ASv0 BXv0 hb
    refine hK.out _ _ (fun _=>?keep) (fun hHeld=>?_)
    case keep=>exact ⟨RCv1.out,ROv1.out,HCELL.out _ BXv1.out⟩
    have hHeld:=hHeld rfl
    clear hK K
    try go_simp
    refine restL_two (i:=8) (j:=12) (by kernel_rfl) rfl rfl (fun K hK=>?_) (fun K hK=>?_)
    ·go_simp
     go_at_call 99
     have HC:=rGate_any c.inputs s.gates KA none s.gates.length kc 0 0 ⟨op,x,y⟩ v1 (Rd.of_own OGv1.out) ⟨hn0,hn1⟩ hgl HMO.out
     rw [HFG.out ()] at HC
     refine HC.mono ?_
     clear HC
     rintro e v2 ⟨rfl,hb⟩
     have RCv2:=hiD (rowCells RCv1.out hb)
     have ROv2:=hiD (rowCells ROv1.out hb)
     have OGv2:Hid (World.ownsRow v2 w1.heap.size 77 3 (.slice KA s.gates.length kc) s.gates.length (gatesCells s.gates)):=own_below OGv1.out hb (Nat.le_refl _)
     have ASv2:Hid (ASt v2 w1.heap.size TA tc (c.inputs.toNat+gn) (aliasL s c.inputs k (gn - k))):=own_below ASv1.out hb (Nat.le_refl _)
     have BXv2:=hiD (below_on2 BXv1.out hb)
     clear hHeld RCv1 ROv1 OGv1 ASv1 BXv1 hb
     refine hK.out _ _ (fun _=>?keep) (fun hHeld=>?_)
     case keep=>exact ⟨RCv2.out,ROv2.out,HCELL.out _ BXv2.out⟩
     have hHeld:=hHeld rfl
     clear hK K
     try go_simp
     refine lPureW 9 ?va8 rfl (by rfl) ?ya8 ?ra8
     case ya8=>intro w' hSw;clear hSw;go_simp;try (with_reducible rfl)
     go_simp
     refine lPureW 10 ?va9 rfl (by rfl) ?ya9 ?ra9
     case ya9=>intro w' hSw;clear hSw;go_simp;try (with_reducible rfl)
     go_simp
     refine lPureW 11 ?va10 rfl (by rfl) ?ya10 ?ra10
     case ya10=>intro w' hSw;clear hSw;go_simp;try (with_reducible rfl)
     go_simp
     refine restL_one (i:=12) (by kernel_rfl) rfl (fun K hK=>?_)
     go_simp
     have RCv3:Hid (Row (World.alloc v2 (.cells #[.int .i64 0,.int .i64 0,.int .i64 0] 77)) w.heap.size 37 [.int .i64 c.inputs,.slice (some ad) gn gc,.slice OA on oc]):=RCv2.out.alloc _
     have ROv3:Hid (Row (World.alloc v2 (.cells #[.int .i64 0,.int .i64 0,.int .i64 0] 77)) ob 37 [.int .i64 c.inputs,.slice KA s.gates.length kc,.slice none 0 0]):=ROv2.out.alloc _
     have OGv3:Hid (World.ownsRow (World.alloc v2 (.cells #[.int .i64 0,.int .i64 0,.int .i64 0] 77)) w1.heap.size 77 3 (.slice KA s.gates.length kc) s.gates.length (gatesCells s.gates)):=OGv2.out.alloc _
     have ASv3:Hid (ASt (World.alloc v2 (.cells #[.int .i64 0,.int .i64 0,.int .i64 0] 77)) w1.heap.size TA tc (c.inputs.toNat+gn) (aliasL s c.inputs k (gn - k))):=ASv2.out.alloc _
     have BXv3:Hid (Below w1.heap.size w1 (World.alloc v2 (.cells #[.int .i64 0,.int .i64 0,.int .i64 0] 77))):=BXv2.out.alloc BXv2.out.size _
     have RBv3:Hid (Row (World.alloc v2 (.cells #[.int .i64 0,.int .i64 0,.int .i64 0] 77)) v2.heap.size 77 [.int .i64 0,.int .i64 0,.int .i64 0]):=Row.new v2 77 _
     have hb6:Hid (ob < v2.heap.size∧w1.heap.size≤v2.heap.size):=⟨ROv2.out.lt,BXv2.out.size⟩
     have HNB:Hid ((Value.slice KA s.gates.length kc).ownBlock≠some v2.heap.size):=fun e=>by have:=(OGv2.out.lt _ e).2;omega
     clear hHeld RCv2 ROv2 OGv2 ASv2 BXv2
     revert RCv3 ROv3 OGv3 ASv3 BXv3 RBv3 hb6 HNB
     generalize (World.alloc v2 (.cells #[.int .i64 0,.int .i64 0,.int .i64 0] 77))=v3
     generalize v2.heap.size=b6
     intro RCv3 ROv3 OGv3 ASv3 BXv3 RBv3 hb6 HNB
     refine hK.out _ _ (fun _=>?keep) (fun hHeld=>?_)
     case keep=>exact ⟨RCv3.out,ROv3.out,HCELL.out _ BXv3.out⟩
     have hHeld:=hHeld rfl
     clear hK K
     try go_simp
     refine restL_one (i:=13) (by kernel_rfl) rfl (fun K hK=>?_)
     obtain ⟨r0,r1,r2,rl⟩:=RBv3.out.cells3
     obtain ⟨rf0,rf1,rf2⟩:=RBv3.out.froz3
     go_simp
     have RCw9:Hid (Row (World.setCell (World.setCell (World.setCell v3 ⟨b6,0,none⟩ (.int .i64 po)) ⟨b6,1,none⟩ (.int .i64 pa)) ⟨b6,2,none⟩ (.int .i64 pb)) w.heap.size 37 [.int .i64 c.inputs,.slice (some ad) gn gc,.slice OA on oc]):=((((((RCv3.out).far (p:=⟨b6,0,none⟩) (by show w.heap.size≠b6;have:=hb6.out;omega) (.int .i64 po))).far (p:=⟨b6,1,none⟩) (by show w.heap.size≠b6;have:=hb6.out;omega) (.int .i64 pa))).far (p:=⟨b6,2,none⟩) (by show w.heap.size≠b6;have:=hb6.out;omega) (.int .i64 pb))
     have ROw9:Hid (Row (World.setCell (World.setCell (World.setCell v3 ⟨b6,0,none⟩ (.int .i64 po)) ⟨b6,1,none⟩ (.int .i64 pa)) ⟨b6,2,none⟩ (.int .i64 pb)) ob 37 [.int .i64 c.inputs,.slice KA s.gates.length kc,.slice none 0 0]):=((((((ROv3.out).far (p:=⟨b6,0,none⟩) (by show ob≠b6;have:=hb6.out;omega) (.int .i64 po))).far (p:=⟨b6,1,none⟩) (by show ob≠b6;have:=hb6.out;omega) (.int .i64 pa))).far (p:=⟨b6,2,none⟩) (by show ob≠b6;have:=hb6.out;omega) (.int .i64 pb))
     have OGw9:Hid (World.ownsRow (World.setCell (World.setCell (World.setCell v3 ⟨b6,0,none⟩ (.int .i64 po)) ⟨b6,1,none⟩ (.int .i64 pa)) ⟨b6,2,none⟩ (.int .i64 pb)) w1.heap.size 77 3 (.slice KA s.gates.length kc) s.gates.length (gatesCells s.gates)):=(own_far (p:=⟨b6,2,none⟩) (own_far (p:=⟨b6,1,none⟩) (own_far (p:=⟨b6,0,none⟩) OGv3.out HNB.out (.int .i64 po)) HNB.out (.int .i64 pa)) HNB.out (.int .i64 pb))
     have ASw9:Hid (ASt (World.setCell (World.setCell (World.setCell v3 ⟨b6,0,none⟩ (.int .i64 po)) ⟨b6,1,none⟩ (.int .i64 pa)) ⟨b6,2,none⟩ (.int .i64 pb)) w1.heap.size TA tc (c.inputs.toNat+gn) (aliasL s c.inputs k (gn - k))):=(own_set (p:=⟨b6,2,none⟩) (own_set (p:=⟨b6,1,none⟩) (own_set (p:=⟨b6,0,none⟩) ASv3.out RBv3.out (by decide) (.int .i64 po)) (Row.set RBv3.out 0 (.int .i64 po)) (by decide) (.int .i64 pa)) (Row.set (Row.set RBv3.out 0 (.int .i64 po)) 1 (.int .i64 pa)) (by decide) (.int .i64 pb))
     have BXw9:Hid (Below w1.heap.size w1 (World.setCell (World.setCell (World.setCell v3 ⟨b6,0,none⟩ (.int .i64 po)) ⟨b6,1,none⟩ (.int .i64 pa)) ⟨b6,2,none⟩ (.int .i64 pb))):=((((((BXv3.out).setCell (p:=⟨b6,0,none⟩) (by show w1.heap.size≤b6;exact hb6.out.2) (.int .i64 po))).setCell (p:=⟨b6,1,none⟩) (by show w1.heap.size≤b6;exact hb6.out.2) (.int .i64 pa))).setCell (p:=⟨b6,2,none⟩) (by show w1.heap.size≤b6;exact hb6.out.2) (.int .i64 pb))
     have RBw9:=hiD (RBv3.out.set3 (.int .i64 po) (.int .i64 pa) (.int .i64 pb))
     clear hHeld RCv3 ROv3 OGv3 ASv3 BXv3 RBv3 r0 r1 r2 rl rf0 rf1 rf2
     revert RCw9 ROw9 OGw9 ASw9 BXw9 RBw9
     generalize (World.setCell (World.setCell (World.setCell v3 ⟨b6,0,none⟩ (.int .i64 po)) ⟨b6,1,none⟩ (.int .i64 pa)) ⟨b6,2,none⟩ (.int .i64 pb))=w9
     intro RCw9 ROw9 OGw9 ASw9 BXw9 RBw9
     refine hK.out _ _ (fun h=>absurd h (by decide)) (fun _=>?_)
     clear hK K
     try go_simp
     refine lPureW 14 ?va11 rfl (by rfl) ?ya11 ?ra11
     case ya11=>intro w' hSw;clear hSw;go_simp;try (with_reducible rfl)
     go_simp
     refine restL_done (by kernel_rfl) ?_ _
     have RO9:=ROw9
     have HG9:=OGw9
     have hoz:=ROw9.out.lt
     have hsz9:=BXw9.out.size
     obtain ⟨k0,k1,k2,kl⟩:=RBw9.out.cells3
     obtain ⟨o0,o1,o2,ol⟩:=ROw9.out.cells3
     go_wp2_with (at_builtin;refine wpList_app rfl (.tmp 37) (.tmp 39) 34 rfl w1.heap.size 77 (.agg #[.int .i64 0,.int .i64 0,.int .i64 0]) 3 24 Try.underlying34 gate_infoZ rfl (by decide) (by decide) (.slice KA s.gates.length kc) s.gates.length (gatesCells s.gates) rfl ?own (w9.heap.size+1) (some ⟨w9.heap.size,0,none⟩) 1 1 [.int .i64 po,.int .i64 pa,.int .i64 pb] rfl ?rd ?one ?hb ?hbase ?_)
     case own=>exact HG9.out.alloc _
     case rd=>exact Rd.lit w9 #[.int .i64 po,.int .i64 pa,.int .i64 pb] 77 (sz:=3) (m:=1) rfl
     case one=>first | exact gate_oneZ _ _ _ | exact ⟨rfl,rfl,rfl⟩
     case hb=>omega
     case hbase=>first | (simp;omega) | omega
     intro v' w5 hown' hgrow' hat'
     obtain ⟨VA,vc,rfl,_⟩:=Rd.own hown'
     obtain ⟨r1,os6,as6,bx6⟩:=OSt.push (g:=⟨po,pa,pb⟩) (RO9.out.alloc _) (HG9.out.alloc _) (World.ownsRow.alloc ASw9.out _) hob rfl (by simp;omega) hgrow' hown' (BXw9.out.alloc hsz9 _)
     have q1:=r1.cell 1
     have qf:=r1.frozen 1
     have ql:=r1.lt
     simp only [List.getElem?_cons_zero,List.getElem?_cons_succ] at q1
     have OS6:Hid (OSt (w5.setCell ⟨ob,1,none⟩ (.slice VA (s.gates.length+1) vc)) w1.heap.size ob c.inputs (foldTo c (k+1)).gates (.slice none 0 0)):=(by show OSt _ _ _ _ _ _;rw [HGT.out ()];exact os6)
     have AS6:Hid (ASt (w5.setCell ⟨ob,1,none⟩ (.slice VA (s.gates.length+1) vc)) w1.heap.size TA tc (c.inputs.toNat+gn) (aliasL s c.inputs k (gn - k))):=as6
     have BX6:Hid (Below w1.heap.size w1 (w5.setCell ⟨ob,1,none⟩ (.slice VA (s.gates.length+1) vc))):=bx6
     clear hown' hgrow' hat' os6 as6 bx6 r1 k0 k1 k2 kl o0 o1 o2 ol ROw9 OGw9 ASw9 BXw9 RBw9 RCw9 RO9 HG9
     go_upto_region 9 with fail
     clear q1 qf ql hoz hsz9
     revert OS6 AS6 BX6
     generalize w5.setCell ⟨ob,1,none⟩ (.slice VA (s.gates.length+1) vc)=w6
     intro OS6 AS6 BX6
     have RC6:=hiD (rowCells RC1.out BX6.out)
     have hs6:=OS6.out.blk.1
     by_cases hz:0≤pz
     ·have HAL:Hid (∀ _:Unit,aliasL (foldTo c (k+1)) c.inputs (k+1) (gn - (k+1))=(aliasL s c.inputs k (gn - k)).set (c.inputs.toNat+k) pz):=fun _=>by rw [HAN.out (),if_neg (by omega)]
      obtain ⟨ga,rfl,hga,hgb,hc1,hf1,hput⟩:=AS6.out.put (i:=c.inputs.toNat+k) (by omega)
      obtain ⟨as7,os7,-,bx7⟩:=hput pz
      have AS7:=(show Hid (ASt _ _ _ _ _ _) from as7)
      have OS7:=(show Hid (OSt _ _ _ _ _ _) from os7 _ _ _ _ OS6.out)
      have BX7:=(show Hid (Below _ _ _) from bx7 _ BX6.out)
      clear as7 os7 bx7 hput
      obtain ⟨ni,hni⟩:∃ ni:Nat,c.inputs.toNat+k=ni:=⟨_,rfl⟩
      have hw1:IntKind.i64.wrap (c.inputs+(k:Int))=(ni:Int):=(IntWalk.i64_in _ (by omega)).trans (by omega)
      have hni1:(ni:Int) < ((c.inputs.toNat+gn:Nat):Int):=by omega
      rw [hni] at hc1 hf1 AS7 OS7 BX7 HAL
      obtain ⟨k0,k1,k2,kl⟩:=RC6.out.cells3
      clear hni
      go_wp2_with fail
      go_roundg (gn - (k+1))
      case measure=>omega
      case rel=>exact ⟨k+1,by omega,by omega,by go_num,OS7.out.blk.1,BX7.out,OS7.out,by rw [HAL.out ()];exact AS7.out⟩
     ·have HAL:Hid (∀ _:Unit,aliasL (foldTo c (k+1)) c.inputs (k+1) (gn - (k+1))=aliasL s c.inputs k (gn - k)):=fun _=>by rw [HAN.out (),if_pos (by omega)]
      obtain ⟨k0,k1,k2,kl⟩:=RC6.out.cells3
      go_wp2_with fail
      go_roundg (gn - (k+1))
      case measure=>omega
      case rel=>exact ⟨k+1,by omega,by omega,by go_num,OS6.out.blk.1,BX6.out,OS6.out,by rw [HAL.out ()];exact AS6.out⟩
    ·go_simp
     have RCv2:Hid (Row (World.alloc v1 (.cells #[.int .i64 0,.int .i64 0,.int .i64 0] 77)) w.heap.size 37 [.int .i64 c.inputs,.slice (some ad) gn gc,.slice OA on oc]):=RCv1.out.alloc _
     have ROv2:Hid (Row (World.alloc v1 (.cells #[.int .i64 0,.int .i64 0,.int .i64 0] 77)) ob 37 [.int .i64 c.inputs,.slice KA s.gates.length kc,.slice none 0 0]):=ROv1.out.alloc _
     have OGv2:Hid (World.ownsRow (World.alloc v1 (.cells #[.int .i64 0,.int .i64 0,.int .i64 0] 77)) w1.heap.size 77 3 (.slice KA s.gates.length kc) s.gates.length (gatesCells s.gates)):=OGv1.out.alloc _
     have ASv2:Hid (ASt (World.alloc v1 (.cells #[.int .i64 0,.int .i64 0,.int .i64 0] 77)) w1.heap.size TA tc (c.inputs.toNat+gn) (aliasL s c.inputs k (gn - k))):=ASv1.out.alloc _
     have BXv2:Hid (Below w1.heap.size w1 (World.alloc v1 (.cells #[.int .i64 0,.int .i64 0,.int .i64 0] 77))):=BXv1.out.alloc BXv1.out.size _
     have RBv2:Hid (Row (World.alloc v1 (.cells #[.int .i64 0,.int .i64 0,.int .i64 0] 77)) v1.heap.size 77 [.int .i64 0,.int .i64 0,.int .i64 0]):=Row.new v1 77 _
     have hb6:Hid (ob < v1.heap.size∧w1.heap.size≤v1.heap.size):=⟨ROv1.out.lt,BXv1.out.size⟩
     have HNB:Hid ((Value.slice KA s.gates.length kc).ownBlock≠some v1.heap.size):=fun e=>by have:=(OGv1.out.lt _ e).2;omega
     clear hHeld RCv1 ROv1 OGv1 ASv1 BXv1
     revert RCv2 ROv2 OGv2 ASv2 BXv2 RBv2 hb6 HNB
     generalize (World.alloc v1 (.cells #[.int .i64 0,.int .i64 0,.int .i64 0] 77))=v2
     generalize v1.heap.size=b6
     intro RCv2 ROv2 OGv2 ASv2 BXv2 RBv2 hb6 HNB
     refine hK.out _ _ (fun _=>?keep) (fun hHeld=>?_)
     case keep=>exact ⟨RCv2.out,ROv2.out,HCELL.out _ BXv2.out⟩
     have hHeld:=hHeld rfl
     clear hK K
     try go_simp
     refine restL_one (i:=8) (by kernel_rfl) rfl (fun K hK=>?_)
     go_simp
     go_at_call 99
     have HC:=rGate_any c.inputs s.gates KA none s.gates.length kc 0 0 ⟨op,x,y⟩ v2 (Rd.of_own OGv2.out) ⟨hn0,hn1⟩ hgl HMO.out
     rw [HFG.out ()] at HC
     refine HC.mono ?_
     clear HC
     rintro e v3 ⟨rfl,hb⟩
     have RCv3:=hiD (rowCells RCv2.out hb)
     have ROv3:=hiD (rowCells ROv2.out hb)
     have OGv3:Hid (World.ownsRow v3 w1.heap.size 77 3 (.slice KA s.gates.length kc) s.gates.length (gatesCells s.gates)):=own_below OGv2.out hb (Nat.le_refl _)
     have ASv3:Hid (ASt v3 w1.heap.size TA tc (c.inputs.toNat+gn) (aliasL s c.inputs k (gn - k))):=own_below ASv2.out hb (Nat.le_refl _)
     have BXv3:=hiD (below_on2 BXv2.out hb)
     have RBv3:=hiD (rowCells RBv2.out hb)
     clear hHeld RCv2 ROv2 OGv2 ASv2 BXv2 RBv2 hb
     refine hK.out _ _ (fun _=>?keep) (fun hHeld=>?_)
     case keep=>exact ⟨RCv3.out,ROv3.out,HCELL.out _ BXv3.out⟩
     have hHeld:=hHeld rfl
     clear hK K
     try go_simp
     refine lPureW 9 ?va12 rfl (by rfl) ?ya12 ?ra12
     case ya12=>intro w' hSw;clear hSw;go_simp;try (with_reducible rfl)
     go_simp
     refine lPureW 10 ?va13 rfl (by rfl) ?ya13 ?ra13
     case ya13=>intro w' hSw;clear hSw;go_simp;try (with_reducible rfl)
     go_simp
     refine lPureW 11 ?va14 rfl (by rfl) ?ya14 ?ra14
     case ya14=>intro w' hSw;clear hSw;go_simp;try (with_reducible rfl)
     go_simp
     refine restL_one (i:=13) (by kernel_rfl) rfl (fun K hK=>?_)
     obtain ⟨r0,r1,r2,rl⟩:=RBv3.out.cells3
     obtain ⟨rf0,rf1,rf2⟩:=RBv3.out.froz3
     go_simp
     have RCw9:Hid (Row (World.setCell (World.setCell (World.setCell v3 ⟨b6,0,none⟩ (.int .i64 po)) ⟨b6,1,none⟩ (.int .i64 pa)) ⟨b6,2,none⟩ (.int .i64 pb)) w.heap.size 37 [.int .i64 c.inputs,.slice (some ad) gn gc,.slice OA on oc]):=((((((RCv3.out).far (p:=⟨b6,0,none⟩) (by show w.heap.size≠b6;have:=hb6.out;omega) (.int .i64 po))).far (p:=⟨b6,1,none⟩) (by show w.heap.size≠b6;have:=hb6.out;omega) (.int .i64 pa))).far (p:=⟨b6,2,none⟩) (by show w.heap.size≠b6;have:=hb6.out;omega) (.int .i64 pb))
     have ROw9:Hid (Row (World.setCell (World.setCell (World.setCell v3 ⟨b6,0,none⟩ (.int .i64 po)) ⟨b6,1,none⟩ (.int .i64 pa)) ⟨b6,2,none⟩ (.int .i64 pb)) ob 37 [.int .i64 c.inputs,.slice KA s.gates.length kc,.slice none 0 0]):=((((((ROv3.out).far (p:=⟨b6,0,none⟩) (by show ob≠b6;have:=hb6.out;omega) (.int .i64 po))).far (p:=⟨b6,1,none⟩) (by show ob≠b6;have:=hb6.out;omega) (.int .i64 pa))).far (p:=⟨b6,2,none⟩) (by show ob≠b6;have:=hb6.out;omega) (.int .i64 pb))
     have OGw9:Hid (World.ownsRow (World.setCell (World.setCell (World.setCell v3 ⟨b6,0,none⟩ (.int .i64 po)) ⟨b6,1,none⟩ (.int .i64 pa)) ⟨b6,2,none⟩ (.int .i64 pb)) w1.heap.size 77 3 (.slice KA s.gates.length kc) s.gates.length (gatesCells s.gates)):=(own_far (p:=⟨b6,2,none⟩) (own_far (p:=⟨b6,1,none⟩) (own_far (p:=⟨b6,0,none⟩) OGv3.out HNB.out (.int .i64 po)) HNB.out (.int .i64 pa)) HNB.out (.int .i64 pb))
     have ASw9:Hid (ASt (World.setCell (World.setCell (World.setCell v3 ⟨b6,0,none⟩ (.int .i64 po)) ⟨b6,1,none⟩ (.int .i64 pa)) ⟨b6,2,none⟩ (.int .i64 pb)) w1.heap.size TA tc (c.inputs.toNat+gn) (aliasL s c.inputs k (gn - k))):=(own_set (p:=⟨b6,2,none⟩) (own_set (p:=⟨b6,1,none⟩) (own_set (p:=⟨b6,0,none⟩) ASv3.out RBv3.out (by decide) (.int .i64 po)) (Row.set RBv3.out 0 (.int .i64 po)) (by decide) (.int .i64 pa)) (Row.set (Row.set RBv3.out 0 (.int .i64 po)) 1 (.int .i64 pa)) (by decide) (.int .i64 pb))
     have BXw9:Hid (Below w1.heap.size w1 (World.setCell (World.setCell (World.setCell v3 ⟨b6,0,none⟩ (.int .i64 po)) ⟨b6,1,none⟩ (.int .i64 pa)) ⟨b6,2,none⟩ (.int .i64 pb))):=((((((BXv3.out).setCell (p:=⟨b6,0,none⟩) (by show w1.heap.size≤b6;exact hb6.out.2) (.int .i64 po))).setCell (p:=⟨b6,1,none⟩) (by show w1.heap.size≤b6;exact hb6.out.2) (.int .i64 pa))).setCell (p:=⟨b6,2,none⟩) (by show w1.heap.size≤b6;exact hb6.out.2) (.int .i64 pb))
     have RBw9:=hiD (RBv3.out.set3 (.int .i64 po) (.int .i64 pa) (.int .i64 pb))
     clear hHeld RCv3 ROv3 OGv3 ASv3 BXv3 RBv3 r0 r1 r2 rl rf0 rf1 rf2
     revert RCw9 ROw9 OGw9 ASw9 BXw9 RBw9
     generalize (World.setCell (World.setCell (World.setCell v3 ⟨b6,0,none⟩ (.int .i64 po)) ⟨b6,1,none⟩ (.int .i64 pa)) ⟨b6,2,none⟩ (.int .i64 pb))=w9
     intro RCw9 ROw9 OGw9 ASw9 BXw9 RBw9
     refine hK.out _ _ (fun h=>absurd h (by decide)) (fun _=>?_)
     clear hK K
     try go_simp
     refine lPureW 14 ?va15 rfl (by rfl) ?ya15 ?ra15
     case ya15=>intro w' hSw;clear hSw;go_simp;try (with_reducible rfl)
     go_simp
     refine restL_done (by kernel_rfl) ?_ _
     have RO9:=ROw9
     have HG9:=OGw9
     have hoz:=ROw9.out.lt
     have hsz9:=BXw9.out.size
     obtain ⟨k0,k1,k2,kl⟩:=RBw9.out.cells3
     obtain ⟨o0,o1,o2,ol⟩:=ROw9.out.cells3
     go_wp2_with (at_builtin;refine wpList_app rfl (.tmp 37) (.tmp 39) 34 rfl w1.heap.size 77 (.agg #[.int .i64 0,.int .i64 0,.int .i64 0]) 3 24 Try.underlying34 gate_infoZ rfl (by decide) (by decide) (.slice KA s.gates.length kc) s.gates.length (gatesCells s.gates) rfl ?own (w9.heap.size+1) (some ⟨w9.heap.size,0,none⟩) 1 1 [.int .i64 po,.int .i64 pa,.int .i64 pb] rfl ?rd ?one ?hb ?hbase ?_)
     case own=>exact HG9.out.alloc _
     case rd=>exact Rd.lit w9 #[.int .i64 po,.int .i64 pa,.int .i64 pb] 77 (sz:=3) (m:=1) rfl
     case one=>first | exact gate_oneZ _ _ _ | exact ⟨rfl,rfl,rfl⟩
     case hb=>omega
     case hbase=>first | (simp;omega) | omega
     intro v' w5 hown' hgrow' hat'
     obtain ⟨VA,vc,rfl,_⟩:=Rd.own hown'
     obtain ⟨r1,os6,as6,bx6⟩:=OSt.push (g:=⟨po,pa,pb⟩) (RO9.out.alloc _) (HG9.out.alloc _) (World.ownsRow.alloc ASw9.out _) hob rfl (by simp;omega) hgrow' hown' (BXw9.out.alloc hsz9 _)
     have q1:=r1.cell 1
     have qf:=r1.frozen 1
     have ql:=r1.lt
     simp only [List.getElem?_cons_zero,List.getElem?_cons_succ] at q1
     have OS6:Hid (OSt (w5.setCell ⟨ob,1,none⟩ (.slice VA (s.gates.length+1) vc)) w1.heap.size ob c.inputs (foldTo c (k+1)).gates (.slice none 0 0)):=(by show OSt _ _ _ _ _ _;rw [HGT.out ()];exact os6)
     have AS6:Hid (ASt (w5.setCell ⟨ob,1,none⟩ (.slice VA (s.gates.length+1) vc)) w1.heap.size TA tc (c.inputs.toNat+gn) (aliasL s c.inputs k (gn - k))):=as6
     have BX6:Hid (Below w1.heap.size w1 (w5.setCell ⟨ob,1,none⟩ (.slice VA (s.gates.length+1) vc))):=bx6
     clear hown' hgrow' hat' os6 as6 bx6 r1 k0 k1 k2 kl o0 o1 o2 ol ROw9 OGw9 ASw9 BXw9 RBw9 RCw9 RO9 HG9
     go_upto_region 9 with fail
     clear q1 qf ql hoz hsz9
     revert OS6 AS6 BX6
     generalize w5.setCell ⟨ob,1,none⟩ (.slice VA (s.gates.length+1) vc)=w6
     intro OS6 AS6 BX6
     have RC6:=hiD (rowCells RC1.out BX6.out)
     have hs6:=OS6.out.blk.1
     by_cases hz:0≤pz
     ·have HAL:Hid (∀ _:Unit,aliasL (foldTo c (k+1)) c.inputs (k+1) (gn - (k+1))=(aliasL s c.inputs k (gn - k)).set (c.inputs.toNat+k) pz):=fun _=>by rw [HAN.out (),if_neg (by omega)]
      obtain ⟨ga,rfl,hga,hgb,hc1,hf1,hput⟩:=AS6.out.put (i:=c.inputs.toNat+k) (by omega)
      obtain ⟨as7,os7,-,bx7⟩:=hput pz
      have AS7:=(show Hid (ASt _ _ _ _ _ _) from as7)
      have OS7:=(show Hid (OSt _ _ _ _ _ _) from os7 _ _ _ _ OS6.out)
      have BX7:=(show Hid (Below _ _ _) from bx7 _ BX6.out)
      clear as7 os7 bx7 hput
      obtain ⟨ni,hni⟩:∃ ni:Nat,c.inputs.toNat+k=ni:=⟨_,rfl⟩
      have hw1:IntKind.i64.wrap (c.inputs+(k:Int))=(ni:Int):=(IntWalk.i64_in _ (by omega)).trans (by omega)
      have hni1:(ni:Int) < ((c.inputs.toNat+gn:Nat):Int):=by omega
      rw [hni] at hc1 hf1 AS7 OS7 BX7 HAL
      obtain ⟨k0,k1,k2,kl⟩:=RC6.out.cells3
      clear hni
      go_wp2_with fail
      go_roundg (gn - (k+1))
      case measure=>omega
      case rel=>exact ⟨k+1,by omega,by omega,by go_num,OS7.out.blk.1,BX7.out,OS7.out,by rw [HAL.out ()];exact AS7.out⟩
     ·have HAL:Hid (∀ _:Unit,aliasL (foldTo c (k+1)) c.inputs (k+1) (gn - (k+1))=aliasL s c.inputs k (gn - k)):=fun _=>by rw [HAN.out (),if_pos (by omega)]
      obtain ⟨k0,k1,k2,kl⟩:=RC6.out.cells3
      go_wp2_with fail
      go_roundg (gn - (k+1))
      case measure=>omega
      case rel=>exact ⟨k+1,by omega,by omega,by go_num,OS6.out.blk.1,BX6.out,OS6.out,by rw [HAL.out ()];exact AS6.out⟩
   ·go_simp
    have RCv1:Hid (Row (World.alloc v0 (.cells #[.int .i64 0,.int .i64 0,.int .i64 0] 77)) w.heap.size 37 [.int .i64 c.inputs,.slice (some ad) gn gc,.slice OA on oc]):=RCv0.out.alloc _
    have ROv1:Hid (Row (World.alloc v0 (.cells #[.int .i64 0,.int .i64 0,.int .i64 0] 77)) ob 37 [.int .i64 c.inputs,.slice KA s.gates.length kc,.slice none 0 0]):=ROv0.out.alloc _
    have OGv1:Hid (World.ownsRow (World.alloc v0 (.cells #[.int .i64 0,.int .i64 0,.int .i64 0] 77)) w1.heap.size 77 3 (.slice KA s.gates.length kc) s.gates.length (gatesCells s.gates)):=OGv0.out.alloc _
    have ASv1:Hid (ASt (World.alloc v0 (.cells #[.int .i64 0,.int .i64 0,.int .i64 0] 77)) w1.heap.size TA tc (c.inputs.toNat+gn) (aliasL s c.inputs k (gn - k))):=ASv0.out.alloc _
    have BXv1:Hid (Below w1.heap.size w1 (World.alloc v0 (.cells #[.int .i64 0,.int .i64 0,.int .i64 0] 77))):=BXv0.out.alloc BXv0.out.size _
    have RBv1:Hid (Row (World.alloc v0 (.cells #[.int .i64 0,.int .i64 0,.int .i64 0] 77)) v0.heap.size 77 [.int .i64 0,.int .i64 0,.int .i64 0]):=Row.new v0 77 _
    have hb6:Hid (ob < v0.heap.size∧w1.heap.size≤v0.heap.size):=⟨ROv0.out.lt,BXv0.out.size⟩
    have HNB:Hid ((Value.slice KA s.gates.length kc).ownBlock≠some v0.heap.size):=fun e=>by have:=(OGv0.out.lt _ e).2;omega
    clear hHeld RCv0 ROv0 OGv0 ASv0 BXv0
    revert RCv1 ROv1 OGv1 ASv1 BXv1 RBv1 hb6 HNB
    generalize (World.alloc v0 (.cells #[.int .i64 0,.int .i64 0,.int .i64 0] 77))=v1
    generalize v0.heap.size=b6
    intro RCv1 ROv1 OGv1 ASv1 BXv1 RBv1 hb6 HNB
    refine hK.out _ _ (fun _=>?keep) (fun hHeld=>?_)
    case keep=>exact ⟨RCv1.out,ROv1.out,HCELL.out _ BXv1.out⟩
    have hHeld:=hHeld rfl
    clear hK K
    try go_simp
    refine restL_one (i:=7) (by kernel_rfl) rfl (fun K hK=>?_)
    go_simp
    go_at_call 97
    have HC:=rRepl_any g (aliasL s c.inputs k (gn - k)) TA (c.inputs.toNat+gn) tc v1 ASv1.out.rd (by omega) HGA.out.1 HGA.out.2
    rw [HMV.out ()] at HC
    refine HC.mono ?_
    clear HC
    rintro e v2 ⟨rfl,hb⟩
    have RCv2:=hiD (rowCells RCv1.out hb)
    have ROv2:=hiD (rowCells ROv1.out hb)
    have OGv2:Hid (World.ownsRow v2 w1.heap.size 77 3 (.slice KA s.gates.length kc) s.gates.length (gatesCells s.gates)):=own_below OGv1.out hb (Nat.le_refl _)
    have ASv2:Hid (ASt v2 w1.heap.size TA tc (c.inputs.toNat+gn) (aliasL s c.inputs k (gn - k))):=own_below ASv1.out hb (Nat.le_refl _)
    have BXv2:=hiD (below_on2 BXv1.out hb)
    have RBv2:=hiD (rowCells RBv1.out hb)
    clear hHeld RCv1 ROv1 OGv1 ASv1 BXv1 RBv1 hb
    refine hK.out _ _ (fun _=>?keep) (fun hHeld=>?_)
    case keep=>exact ⟨RCv2.out,ROv2.out,HCELL.out _ BXv2.out⟩
    have hHeld:=hHeld rfl
    clear hK K
    try go_simp
    refine restL_one (i:=8) (by kernel_rfl) rfl (fun K hK=>?_)
    go_simp
    go_at_call 99
    have HC:=rGate_any c.inputs s.gates KA none s.gates.length kc 0 0 ⟨op,x,y⟩ v2 (Rd.of_own OGv2.out) ⟨hn0,hn1⟩ hgl HMO.out
    rw [HFG.out ()] at HC
    refine HC.mono ?_
    clear HC
    rintro e v3 ⟨rfl,hb⟩
    have RCv3:=hiD (rowCells RCv2.out hb)
    have ROv3:=hiD (rowCells ROv2.out hb)
    have OGv3:Hid (World.ownsRow v3 w1.heap.size 77 3 (.slice KA s.gates.length kc) s.gates.length (gatesCells s.gates)):=own_below OGv2.out hb (Nat.le_refl _)
    have ASv3:Hid (ASt v3 w1.heap.size TA tc (c.inputs.toNat+gn) (aliasL s c.inputs k (gn - k))):=own_below ASv2.out hb (Nat.le_refl _)
    have BXv3:=hiD (below_on2 BXv2.out hb)
    have RBv3:=hiD (rowCells RBv2.out hb)
    clear hHeld RCv2 ROv2 OGv2 ASv2 BXv2 RBv2 hb
    refine hK.out _ _ (fun _=>?keep) (fun hHeld=>?_)
    case keep=>exact ⟨RCv3.out,ROv3.out,HCELL.out _ BXv3.out⟩
    have hHeld:=hHeld rfl
    clear hK K
    try go_simp
    refine lPureW 9 ?va16 rfl (by rfl) ?ya16 ?ra16
    case ya16=>intro w' hSw;clear hSw;go_simp;try (with_reducible rfl)
    go_simp
    refine lPureW 10 ?va17 rfl (by rfl) ?ya17 ?ra17
    case ya17=>intro w' hSw;clear hSw;go_simp;try (with_reducible rfl)
    go_simp
    refine lPureW 11 ?va18 rfl (by rfl) ?ya18 ?ra18
    case ya18=>intro w' hSw;clear hSw;go_simp;try (with_reducible rfl)
    go_simp
    refine restL_one (i:=13) (by kernel_rfl) rfl (fun K hK=>?_)
    obtain ⟨r0,r1,r2,rl⟩:=RBv3.out.cells3
    obtain ⟨rf0,rf1,rf2⟩:=RBv3.out.froz3
    go_simp
    have RCw9:Hid (Row (World.setCell (World.setCell (World.setCell v3 ⟨b6,0,none⟩ (.int .i64 po)) ⟨b6,1,none⟩ (.int .i64 pa)) ⟨b6,2,none⟩ (.int .i64 pb)) w.heap.size 37 [.int .i64 c.inputs,.slice (some ad) gn gc,.slice OA on oc]):=((((((RCv3.out).far (p:=⟨b6,0,none⟩) (by show w.heap.size≠b6;have:=hb6.out;omega) (.int .i64 po))).far (p:=⟨b6,1,none⟩) (by show w.heap.size≠b6;have:=hb6.out;omega) (.int .i64 pa))).far (p:=⟨b6,2,none⟩) (by show w.heap.size≠b6;have:=hb6.out;omega) (.int .i64 pb))
    have ROw9:Hid (Row (World.setCell (World.setCell (World.setCell v3 ⟨b6,0,none⟩ (.int .i64 po)) ⟨b6,1,none⟩ (.int .i64 pa)) ⟨b6,2,none⟩ (.int .i64 pb)) ob 37 [.int .i64 c.inputs,.slice KA s.gates.length kc,.slice none 0 0]):=((((((ROv3.out).far (p:=⟨b6,0,none⟩) (by show ob≠b6;have:=hb6.out;omega) (.int .i64 po))).far (p:=⟨b6,1,none⟩) (by show ob≠b6;have:=hb6.out;omega) (.int .i64 pa))).far (p:=⟨b6,2,none⟩) (by show ob≠b6;have:=hb6.out;omega) (.int .i64 pb))
    have OGw9:Hid (World.ownsRow (World.setCell (World.setCell (World.setCell v3 ⟨b6,0,none⟩ (.int .i64 po)) ⟨b6,1,none⟩ (.int .i64 pa)) ⟨b6,2,none⟩ (.int .i64 pb)) w1.heap.size 77 3 (.slice KA s.gates.length kc) s.gates.length (gatesCells s.gates)):=(own_far (p:=⟨b6,2,none⟩) (own_far (p:=⟨b6,1,none⟩) (own_far (p:=⟨b6,0,none⟩) OGv3.out HNB.out (.int .i64 po)) HNB.out (.int .i64 pa)) HNB.out (.int .i64 pb))
    have ASw9:Hid (ASt (World.setCell (World.setCell (World.setCell v3 ⟨b6,0,none⟩ (.int .i64 po)) ⟨b6,1,none⟩ (.int .i64 pa)) ⟨b6,2,none⟩ (.int .i64 pb)) w1.heap.size TA tc (c.inputs.toNat+gn) (aliasL s c.inputs k (gn - k))):=(own_set (p:=⟨b6,2,none⟩) (own_set (p:=⟨b6,1,none⟩) (own_set (p:=⟨b6,0,none⟩) ASv3.out RBv3.out (by decide) (.int .i64 po)) (Row.set RBv3.out 0 (.int .i64 po)) (by decide) (.int .i64 pa)) (Row.set (Row.set RBv3.out 0 (.int .i64 po)) 1 (.int .i64 pa)) (by decide) (.int .i64 pb))
    have BXw9:Hid (Below w1.heap.size w1 (World.setCell (World.setCell (World.setCell v3 ⟨b6,0,none⟩ (.int .i64 po)) ⟨b6,1,none⟩ (.int .i64 pa)) ⟨b6,2,none⟩ (.int .i64 pb))):=((((((BXv3.out).setCell (p:=⟨b6,0,none⟩) (by show w1.heap.size≤b6;exact hb6.out.2) (.int .i64 po))).setCell (p:=⟨b6,1,none⟩) (by show w1.heap.size≤b6;exact hb6.out.2) (.int .i64 pa))).setCell (p:=⟨b6,2,none⟩) (by show w1.heap.size≤b6;exact hb6.out.2) (.int .i64 pb))
    have RBw9:=hiD (RBv3.out.set3 (.int .i64 po) (.int .i64 pa) (.int .i64 pb))
    clear hHeld RCv3 ROv3 OGv3 ASv3 BXv3 RBv3 r0 r1 r2 rl rf0 rf1 rf2
    revert RCw9 ROw9 OGw9 ASw9 BXw9 RBw9
    generalize (World.setCell (World.setCell (World.setCell v3 ⟨b6,0,none⟩ (.int .i64 po)) ⟨b6,1,none⟩ (.int .i64 pa)) ⟨b6,2,none⟩ (.int .i64 pb))=w9
    intro RCw9 ROw9 OGw9 ASw9 BXw9 RBw9
    refine hK.out _ _ (fun h=>absurd h (by decide)) (fun _=>?_)
    clear hK K
    try go_simp
    refine lPureW 14 ?va19 rfl (by rfl) ?ya19 ?ra19
    case ya19=>intro w' hSw;clear hSw;go_simp;try (with_reducible rfl)
    go_simp
    refine restL_done (by kernel_rfl) ?_ _
    have RO9:=ROw9
    have HG9:=OGw9
    have hoz:=ROw9.out.lt
    have hsz9:=BXw9.out.size
    obtain ⟨k0,k1,k2,kl⟩:=RBw9.out.cells3
    obtain ⟨o0,o1,o2,ol⟩:=ROw9.out.cells3
    go_wp2_with (at_builtin;refine wpList_app rfl (.tmp 37) (.tmp 39) 34 rfl w1.heap.size 77 (.agg #[.int .i64 0,.int .i64 0,.int .i64 0]) 3 24 Try.underlying34 gate_infoZ rfl (by decide) (by decide) (.slice KA s.gates.length kc) s.gates.length (gatesCells s.gates) rfl ?own (w9.heap.size+1) (some ⟨w9.heap.size,0,none⟩) 1 1 [.int .i64 po,.int .i64 pa,.int .i64 pb] rfl ?rd ?one ?hb ?hbase ?_)
    case own=>exact HG9.out.alloc _
    case rd=>exact Rd.lit w9 #[.int .i64 po,.int .i64 pa,.int .i64 pb] 77 (sz:=3) (m:=1) rfl
    case one=>first | exact gate_oneZ _ _ _ | exact ⟨rfl,rfl,rfl⟩
    case hb=>omega
    case hbase=>first | (simp;omega) | omega
    intro v' w5 hown' hgrow' hat'
    obtain ⟨VA,vc,rfl,_⟩:=Rd.own hown'
    obtain ⟨r1,os6,as6,bx6⟩:=OSt.push (g:=⟨po,pa,pb⟩) (RO9.out.alloc _) (HG9.out.alloc _) (World.ownsRow.alloc ASw9.out _) hob rfl (by simp;omega) hgrow' hown' (BXw9.out.alloc hsz9 _)
    have q1:=r1.cell 1
    have qf:=r1.frozen 1
    have ql:=r1.lt
    simp only [List.getElem?_cons_zero,List.getElem?_cons_succ] at q1
    have OS6:Hid (OSt (w5.setCell ⟨ob,1,none⟩ (.slice VA (s.gates.length+1) vc)) w1.heap.size ob c.inputs (foldTo c (k+1)).gates (.slice none 0 0)):=(by show OSt _ _ _ _ _ _;rw [HGT.out ()];exact os6)
    have AS6:Hid (ASt (w5.setCell ⟨ob,1,none⟩ (.slice VA (s.gates.length+1) vc)) w1.heap.size TA tc (c.inputs.toNat+gn) (aliasL s c.inputs k (gn - k))):=as6
    have BX6:Hid (Below w1.heap.size w1 (w5.setCell ⟨ob,1,none⟩ (.slice VA (s.gates.length+1) vc))):=bx6
    clear hown' hgrow' hat' os6 as6 bx6 r1 k0 k1 k2 kl o0 o1 o2 ol ROw9 OGw9 ASw9 BXw9 RBw9 RCw9 RO9 HG9
    go_upto_region 9 with fail
    clear q1 qf ql hoz hsz9
    revert OS6 AS6 BX6
    generalize w5.setCell ⟨ob,1,none⟩ (.slice VA (s.gates.length+1) vc)=w6
    intro OS6 AS6 BX6
    have RC6:=hiD (rowCells RC1.out BX6.out)
    have hs6:=OS6.out.blk.1
    by_cases hz:0≤pz
    ·have HAL:Hid (∀ _:Unit,aliasL (foldTo c (k+1)) c.inputs (k+1) (gn - (k+1))=(aliasL s c.inputs k (gn - k)).set (c.inputs.toNat+k) pz):=fun _=>by rw [HAN.out (),if_neg (by omega)]
     obtain ⟨ga,rfl,hga,hgb,hc1,hf1,hput⟩:=AS6.out.put (i:=c.inputs.toNat+k) (by omega)
     obtain ⟨as7,os7,-,bx7⟩:=hput pz
     have AS7:=(show Hid (ASt _ _ _ _ _ _) from as7)
     have OS7:=(show Hid (OSt _ _ _ _ _ _) from os7 _ _ _ _ OS6.out)
     have BX7:=(show Hid (Below _ _ _) from bx7 _ BX6.out)
     clear as7 os7 bx7 hput
     obtain ⟨ni,hni⟩:∃ ni:Nat,c.inputs.toNat+k=ni:=⟨_,rfl⟩
     have hw1:IntKind.i64.wrap (c.inputs+(k:Int))=(ni:Int):=(IntWalk.i64_in _ (by omega)).trans (by omega)
     have hni1:(ni:Int) < ((c.inputs.toNat+gn:Nat):Int):=by omega
     rw [hni] at hc1 hf1 AS7 OS7 BX7 HAL
     obtain ⟨k0,k1,k2,kl⟩:=RC6.out.cells3
     clear hni
     go_wp2_with fail
     go_roundg (gn - (k+1))
     case measure=>omega
     case rel=>exact ⟨k+1,by omega,by omega,by go_num,OS7.out.blk.1,BX7.out,OS7.out,by rw [HAL.out ()];exact AS7.out⟩
    ·have HAL:Hid (∀ _:Unit,aliasL (foldTo c (k+1)) c.inputs (k+1) (gn - (k+1))=aliasL s c.inputs k (gn - k)):=fun _=>by rw [HAN.out (),if_pos (by omega)]
     obtain ⟨k0,k1,k2,kl⟩:=RC6.out.cells3
     go_wp2_with fail
     go_roundg (gn - (k+1))
     case measure=>omega
     case rel=>exact ⟨k+1,by omega,by omega,by go_num,OS6.out.blk.1,BX6.out,OS6.out,by rw [HAL.out ()];exact AS6.out⟩
  ·have hlz:¬ (k:Int) < (gn:Int):=by omega
   obtain rfl:gn=k:=by omega
   obtain ⟨l1,l2⟩:=foldTo_len c gn
   have HV:Hid (∀ _:Unit,foldC c=doneW c (foldTo c gn)):=fun _=>by rw [foldC_eq HR.out,HGL.out ()]
   have hrc:=(fold_right HR.out)
   generalize foldTo c gn=s at OS AS l1 l2 HV
   have HOB:Hid (∀ i,i < c.outs.length→0≤c.outs.getD i 0∧c.outs.getD i 0 < ((c.inputs.toNat+gn:Nat):Int)):=fun i hi=>by
    have:=outOk_at (rightC_parts HR.out).2.2 hi
    rw [HGL.out ()] at this
    omega
   have AS2:Hid (ASt wr w1.heap.size TA tc (c.inputs.toNat+gn) s.to):=(by show ASt _ _ _ _ _ _;have e:=alias_end (s:=s) (n:=c.inputs) (k:=gn);rw [Nat.sub_self,e] at AS;exact AS.out)
   obtain ⟨KA,kc,hro,hog⟩:=OS.out.op
   rw [l1] at hro hog
   have ROr:Hid (Row wr ob 37 [.int .i64 c.inputs,.slice KA gn kc,.slice none 0 0]):=hro
   have OGr:Hid (World.ownsRow wr w1.heap.size 77 3 (.slice KA gn kc) gn (gatesCells s.gates)):=hog
   clear hro hog OS AS hrc
   obtain ⟨k0,k1,k2,kl⟩:=RCn.out.cells3
   obtain ⟨o0,o1,o2,ol⟩:=ROr.out.cells3
   have of2:=ROr.out.frozen 2
   go_wp2_with fail
   have HC:=rOuts_any c.outs s.to OA TA on oc (c.inputs.toNat+gn) tc wr (HC0.out.up BW.out).outs AS2.out.rd (by omega) (by omega) HOB.out
   refine HC.mono ?_
   clear HC
   rintro e w4 ⟨OB,pc,rfl,hrd,hfr,hb⟩
   have RO4:=hiD (rowCells ROr.out hb)
   have RR4:Hid (Row w4 (w.heap.size+1) 37 [.int .i64 0,.slice none 0 0,.slice none 0 0]):=rowCells RR1.out (below_on2 BX.out hb)
   have OG4:Hid (World.ownsRow w4 w1.heap.size 77 3 (.slice KA gn kc) gn (gatesCells s.gates)):=own_below OGr.out hb (Nat.le_refl _)
   have HRO:Hid (Rd w4 w4.heap.size 1 OB on (ints (c.outs.map (toAt s.to)))):=hrd
   have HFO:Hid (CFrom OB on wr.heap.size):=hfr
   have BW4:=hiD (below_on2 BW.out hb)
   clear hrd hfr hb k0 k1 k2 kl o0 o1 o2 ol of2 ROr OGr RCn
   obtain ⟨o0,o1,o2,ol⟩:=RO4.out.cells3
   obtain ⟨of0,of1,of2⟩:=RO4.out.froz3
   go_upto_region 12 with fail
   have RO5:Hid (Row (World.setCell w4 ⟨ob,2,none⟩ (.slice OB on pc)) ob 37 [.int .i64 c.inputs,.slice KA gn kc,.slice OB on pc]):=RO4.out.set 2 _
   have RR5:Hid (Row (World.setCell w4 ⟨ob,2,none⟩ (.slice OB on pc)) (w.heap.size+1) 37 [.int .i64 0,.slice none 0 0,.slice none 0 0]):=RR4.out.far (p:=⟨ob,2,none⟩) (by show w.heap.size+1≠ob;omega) _
   have BW5:Hid (Below w.heap.size w (World.setCell w4 ⟨ob,2,none⟩ (.slice OB on pc))):=BW4.out.setCell (p:=⟨ob,2,none⟩) (by show w.heap.size≤ob;omega) _
   have OG5:Hid (World.ownsRow (World.setCell w4 ⟨ob,2,none⟩ (.slice OB on pc)) w1.heap.size 77 3 (.slice KA gn kc) gn (gatesCells s.gates)):=own_set (p:=⟨ob,2,none⟩) OG4.out RO4.out (by decide) _
   have HR5:Hid (Rd (World.setCell w4 ⟨ob,2,none⟩ (.slice OB on pc)) (World.setCell w4 ⟨ob,2,none⟩ (.slice OB on pc)).heap.size 1 OB on (ints (c.outs.map (toAt s.to)))):=(by
    show Rd _ _ _ _ _ _
    rw [World.size_setCell]
    exact HRO.out.farSet (p:=⟨ob,2,none⟩) (HFO.out.ne (by show ob < _;omega)) _)
   clear RO4 RR4 BW4 OG4 HRO o0 o1 o2 ol of0 of1 of2
   revert RO5 RR5 BW5 OG5 HR5
   generalize (World.setCell w4 ⟨ob,2,none⟩ (.slice OB on pc))=w5
   intro RO5 RR5 BW5 OG5 HR5
   have HF1:Hid (CFrom KA gn w1.heap.size):=own_from OG5.out
   have HF2:Hid (CFrom OB on w1.heap.size):=HFO.out.mono (by omega)
   have HCA:Hid (CAt w5 (foldC c) KA OB gn on):=(by
    show CAt _ _ _ _ _ _
    rw [HV.out ()]
    exact ⟨Rd.of_own OG5.out,HR5.out,by unfold maxLen;omega,by unfold maxLen;omega⟩)
   clear OG5 HR5 HFO
   obtain ⟨o0,o1,o2,ol⟩:=RO5.out.cells3
   obtain ⟨z0,z1,z2,zl⟩:=RR5.out.cells3
   obtain ⟨zf0,zf1,zf2⟩:=RR5.out.froz3
   go_wp2
   have Z9:=RR5.out.set3 (.int .i64 c.inputs) (.slice KA gn kc) (.slice OB on pc)
   have B9:=bSet3 BW5.out (w.heap.size+1) (by show _≤(w.heap.size+1);omega) (.int .i64 c.inputs) (.slice KA gn kc) (.slice OB on pc)
   obtain ⟨d0,d1,d2,-⟩:=Z9.cells3
   clear Z9
   refine bodyPost_ret (v:=.agg #[.int .i64 c.inputs,.slice KA gn kc,.slice OB on pc]) (by simp [results,Try.results65,go_sem,d0,d1,d2]) rfl ?_
   have HIN:(foldC c).inputs=c.inputs:=by rw [HV.out ()];rfl
   exact ⟨KA,OB,gn,kc,on,pc,by rw [HIN],(CAt.farSet (CAt.farSet (CAt.farSet HCA.out (p:=⟨(w.heap.size+1),0,none⟩) (HF1.out.ne (by show (w.heap.size+1) < _;omega)) (HF2.out.ne (by show (w.heap.size+1) < _;omega)) (.int .i64 c.inputs)) (p:=⟨(w.heap.size+1),1,none⟩) (HF1.out.ne (by show (w.heap.size+1) < _;omega)) (HF2.out.ne (by show (w.heap.size+1) < _;omega)) (.slice KA gn kc)) (p:=⟨(w.heap.size+1),2,none⟩) (HF1.out.ne (by show (w.heap.size+1) < _;omega)) (HF2.out.ne (by show (w.heap.size+1) < _;omega)) (.slice OB on pc)),HF1.out.mono (by omega),HF2.out.mono (by omega),B9⟩
end Go.Proofs.Ytiemhbogbaamlaa
