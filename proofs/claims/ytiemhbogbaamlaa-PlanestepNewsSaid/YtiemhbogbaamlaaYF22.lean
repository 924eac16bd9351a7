/-
 A part.
-/
import Derived.Test.YtiemhbogbaamlaaYF2
import Derived.Test.YtiemhbogbaamlaaProg
import Derived.Test.YtiemhbogbaamlaaYF7
import Derived.Laws.CopyOwn
import Derived.Deep.RegionLaw
import Derived.WalkSpells
import Derived.Deep.Light
import Derived.Test.YtiemhbogbaamlaaYF1
import Derived.Test.YtiemhbogbaamlaaYF15
import Derived.Test.YtiemhbogbaamlaaYF21
import Derived.BigRegion
import Derived.Deep.QuietTactic
import Derived.BigQuiet
import Derived.Laws.BitsAllLaws
set_option linter.unusedSimpArgs false
set_option linter.unusedVariables false
namespace Go.Proofs.Ytiemhbogbaamlaa
open Go.RowKit
theorem pt_info:(Try.prog.info? 73).map (fun i=>(i.zero,i.size,i.bytes))=some (some (.agg #[.int .i64 0,.int .i64 0]),2,16):=by kernel_rfl
theorem hoodCells_one (l:List Pt):∀ u ∈ hoodCells l,u.oneCell'=true:=by
 intro u hu
 simp only [hoodCells,ptCells,List.mem_flatMap,List.mem_cons,List.not_mem_nil,or_false] at hu
 obtain ⟨p,_,rfl | rfl⟩:=hu <;> rfl
set_option maxHeartbeats 400000 in
theorem clone_pts (A:Option Addr) (n c:Nat) (l:List Pt) (w:World) (hr:Rd w w.heap.size 2 A n (hoodCells l)) (hn:n≤20000):
 Calls Try.prog 32 #[.slice A n c] w fun e w'=>∃ A' c',e=.returned (.slice A' n c')∧w'.ownsRow w.heap.size 73 2 (.slice A' n c') n (hoodCells l)∧Below w.heap.size w w':=by
 have HR:=hiD hr
 clear hr
 cases A with
 | none=>
  have h0:n=0:=by
   rcases Nat.eq_zero_or_pos n with h | h
   ·exact h
   ·obtain ⟨ad,e,_⟩:=HR.out.ex h;cases e
  subst h0
  have hc:hoodCells l=[]:=List.eq_nil_of_length_eq_zero (by have:=HR.out.1;simpa using this)
  have HC:=hiD hc
  clear hc
  have e1:=fun W=>Lib.run_eql_slice_nil (P:=Try.prog) W 22 73 none 0 c 0 0 Try.underlying22
  go_enter Try.func32,Try.ntmps32
  go_wp2
  go_ret
  refine ⟨none,0,rfl,?_,Below.refl _ _⟩
  rw [HC.out]
  exact World.ownsRow_nil _ _ _ _
 | some ad=>
  have e1:=fun W=>Lib.run_eql_slice_nil (P:=Try.prog) W 22 73 (some ad) n c 0 0 Try.underlying22
  go_enter Try.func32,Try.ntmps32
  go_wp2_with (at_builtin;refine wpList_app rfl (.tmp 5) (.tmp 6) 22 rfl w.heap.size 73 (.agg #[.int .i64 0,.int .i64 0]) 2 16 Try.underlying22 pt_info rfl (by decide) (by decide) (.slice (some ⟨w.heap.size,0,none⟩) 0 0) 0 [] rfl ?own w.heap.size (some ad) n c (hoodCells l) rfl ?rd (hoodCells_one l) ?hb ?hbase ?_)
  case own=>exact Row.own (xs:=[]) (Row.new _ _ _) (Nat.le_refl _) rfl (by unfold maxLen;omega)
  case rd=>exact HR.out.below (show Below w.heap.size w _ by go_grown) (Nat.le_refl _)
  case hb=>omega
  case hbase=>simp
  intro v' w' hown' hgrow' hat'
  have HB:Aside (Below w.heap.size w w'):=(show Below w.heap.size w (w.alloc (.cells #[] 73)) by go_grown).grown hgrow' (by simp) (fun k hk=>by simp [Value.ownBlock] at hk;omega)
  have HO:Aside (w'.ownsRow w.heap.size 73 2 v' n (hoodCells l)):=by
   show w'.ownsRow _ _ _ _ _ _
   simpa using hown'
  clear hown' hgrow' hat'
  obtain ⟨A',c',rfl,_⟩:=Rd.own HO.out
  go_wp2
  go_ret
  exact ⟨A',c',rfl,HO.out,HB.out⟩
end Go.Proofs.Ytiemhbogbaamlaa
/-
 A part.
-/
namespace Go.Proofs.Ytiemhbogbaamlaa
open Go.RowKit
structure EngAt (W:World) (b:Nat) (t:Tre) (GA OA PA:Option Addr) (gn gc on oc pn pc:Nat):Prop where
 row:Row W b 75 [.int .i64 (circT t).inputs,.slice GA gn gc,.slice OA on oc,.slice PA pn pc,.int .i64 t.states]
 circ:CAt W (circT t) GA OA gn on
 hood:Rd W W.heap.size 2 PA pn (hoodCells t.hood)
 rt:rightT t=true
 few:t.nodes.length≤400
theorem EngAt.up {W W':World} {b:Nat} {t:Tre} {GA OA PA:Option Addr} {gn gc on oc pn pc:Nat} (h:EngAt W b t GA OA PA gn gc on oc pn pc) (hb:Below W.heap.size W W'):EngAt W' b t GA OA PA gn gc on oc pn pc:=
 ⟨rowCells h.row hb,h.circ.up hb,h.hood.up hb,h.rt,h.few⟩
theorem EngAt.pl {W:World} {b:Nat} {t:Tre} {GA OA PA:Option Addr} {gn gc on oc pn pc:Nat} (h:EngAt W b t GA OA PA gn gc on oc pn pc):t.hood.length=pn:=by
 have:=h.hood.1;rw [hoodCells,flat2_length _ (fun _=>rfl)] at this;omega
def EngPost (t:Tre) (w:World) (e:Ending) (w':World):Prop:=
 (rightT t=true∧∃ b GA OA PA gn gc on oc pn pc,e=.returned (.tuple #[.pointer (some ⟨b,0,none⟩),.int .i64 0])∧EngAt w' b t GA OA PA gn gc on oc pn pc∧Below w.heap.size w w') ∨
 (rightT t=false∧e=.returned (.tuple #[.pointer none,.int .i64 11])∧Below w.heap.size w w')
set_option maxRecDepth 100000 in
set_option maxHeartbeats 8000000 in
theorem new_any (t:Tre) (HA NA:Option Addr) (hn hc nn nc:Nat) (sl:List Sl) (w:World) (h:TAt w t HA NA hn nn sl) (h400:nn≤400):
 Calls Try.prog 10 #[.agg #[.int .i64 t.states,.slice HA hn hc,.slice NA nn nc]] w (EngPost t w):=by
 have HT:=hiD h
 have HLN:Hid (t.nodes.length=nn):=h.nl
 have HLH:Hid (t.hood.length=hn):=h.hl
 clear h
 go_enter Try.func10,Try.ntmps10
 go_upto_region 1 with fail
 obtain ⟨wa,hW9,RT,hgr9⟩:=laid1 w [.int .i64 t.states,.slice HA hn hc,.slice NA nn nc] 25
 rewrite [hW9]
 clear hW9
 have B_w:=hiD hgr9
 clear hgr9
 obtain ⟨k0,k1,k2,kl⟩:=RT.out.cells3
 go_wp2_with fail
 have HC:=lower_any t HA NA hn hc nn nc sl wa (HT.out.up B_w.out) h400
 unfold CPost at HC
 obtain ⟨q,hq⟩:∃ q,rightT t=q:=⟨_,rfl⟩
 have HQ:=hiU hq
 have hle:lowErr t=if q=true then 0 else 11:=by rw [lowErr,hq]
 rw [hle] at HC
 clear hle hq
 refine HC.mono ?_
 clear HC
 rintro e w1 ⟨GA,OA,gn,gc,on,oc,he,hca,hb⟩
 have he2:e=.returned (.tuple #[.agg #[.int .i64 (lowR t).inputs,.slice GA gn gc,.slice OA on oc],.int .i64 (if q=true then 0 else 11)]):=he
 subst he2
 have HL:=hiD hca
 clear he hca
 have B_w:=hiD (below_on2 B_w.out hb)
 have B_wa:=hiD hb
 clear k0 k1 k2 kl
 clear hb
 cases q
 ·have hif:(if false=true then (0:Int) else 11)=11:=rfl
  rw [hif]
  go_upto_region 2 with fail
  obtain ⟨w2,hW9,RL,hgr9⟩:=laid1 w1 [.int .i64 (lowR t).inputs,.slice GA gn gc,.slice OA on oc] 37
  rewrite [hW9]
  clear hW9
  have B_w:=hiD (below_on2 B_w.out hgr9)
  clear hgr9
  go_wp2_with fail
  go_ret2
  exact .inr ⟨HQ.out (),rfl,B_w.out⟩
 have hif:(if true=true then (0:Int) else 11)=0:=rfl
 rw [hif]
 clear hif
 have HR:Hid (rightT t=true):=HQ.out ()
 clear HQ
 go_upto_region 2 with fail
 obtain ⟨w2,hW9,RL,hgr9⟩:=laid1 w1 [.int .i64 (lowR t).inputs,.slice GA gn gc,.slice OA on oc] 37
 rewrite [hW9]
 clear hW9
 have B_w:=hiD (below_on2 B_w.out hgr9)
 have B_wa:=hiD (below_on2 B_wa.out hgr9)
 have B_w1:=hiD hgr9
 clear hgr9
 have hh:=hood_pos HR.out
 rw [HLH.out] at hh
 have hu:undef=Value.tuple #[]:=rfl
 obtain ⟨k0,k1,k2,kl⟩:=RL.out.cells3
 obtain ⟨j0,j1,j2,jl⟩:=(rowCells RT.out B_wa.out).cells3
 go_wp2_with fail
 refine wp_region_L (fun w'=>Row w' (w1.heap.size) 37 [.int .i64 (lowR t).inputs,.slice GA gn gc,.slice OA on oc]∧Row w' (w.heap.size) 25 [.int .i64 t.states,.slice HA hn hc,.slice NA nn nc]) [] (by kernel_rfl) (by exact ⟨Row.drew RL.out,Row.drew (rowCells RT.out B_wa.out)⟩) (fun hHeld=>?_)
 have B_w:Hid (Below w.heap.size w (World.drew w2)):=B_w.out.drew
 have B_wa:Hid (Below wa.heap.size wa (World.drew w2)):=B_wa.out.drew
 have B_w1:Hid (Below w1.heap.size w1 (World.drew w2)):=B_w1.out.drew
 have B_w2:Hid (Below w2.heap.size w2 (World.drew w2)):=(Below.refl _ _).drew
 clear k0 k1 k2 kl j0 j1 j2 jl
 revert hHeld B_w B_wa B_w1 B_w2
 generalize World.drew w2=w2q
 intro hHeld B_w B_wa B_w1 B_w2
 refine lPureW 2 ?vn1 rfl (by rfl) ?yn1 ?rn1
 case yn1=>intro w' hSw;clear hSw;go_simp;try (with_reducible rfl)
 go_simp
 refine lPureW 5 ?vn2 rfl (by rfl) ?yn2 ?rn2
 case yn2=>intro w' hSw;clear hSw;go_simp;try (with_reducible rfl)
 go_simp
 refine lTakeW 0 ?vn3 [] rfl (by rfl) ?yn3 hHeld ?rn3
 case yn3=>
  intro w' hSw
  obtain ⟨s0,s1⟩:=hSw
  have hT0:=hiD s0
  obtain ⟨z0_0,z0_1,z0_2,z0_l⟩:=hT0.out.cells3
  have hT1:=hiD s1
  obtain ⟨z1_0,z1_1,z1_2,z1_l⟩:=hT1.out.cells3
  clear s0 s1
  go_simp
  try (with_reducible rfl)
 go_simp
 refine lTakeW 3 ?vn4 [] rfl (by rfl) ?yn4 hHeld ?rn4
 case yn4=>
  intro w' hSw
  obtain ⟨s0,s1⟩:=hSw
  have hT0:=hiD s0
  obtain ⟨z0_0,z0_1,z0_2,z0_l⟩:=hT0.out.cells3
  have hT1:=hiD s1
  obtain ⟨z1_0,z1_1,z1_2,z1_l⟩:=hT1.out.cells3
  clear s0 s1
  go_simp
  try (with_reducible rfl)
 go_simp
 refine lTakeW 6 ?vn5 [] rfl (by rfl) ?yn5 hHeld ?rn5
 case yn5=>
  intro w' hSw
  obtain ⟨s0,s1⟩:=hSw
  have hT0:=hiD s0
  obtain ⟨z0_0,z0_1,z0_2,z0_l⟩:=hT0.out.cells3
  have hT1:=hiD s1
  obtain ⟨z1_0,z1_1,z1_2,z1_l⟩:=hT1.out.cells3
  clear s0 s1
  go_simp
  try (with_reducible rfl)
 go_simp
 refine restL_one (i:=1) (by kernel_rfl) rfl (fun K hK=>?_)
 go_simp
 go_at_call 31
 have HC:=all_any (lowR t) GA OA gn gc on oc w2q (HL.out.up B_w1.out)
 refine HC.mono ?_
 clear HC
 rintro e y1 ⟨DA,DB,Dn,Dc,Dm,Dd,he,hca,-,-,hb⟩
 have he2:e=.returned (.agg #[.int .i64 (allC (lowR t)).inputs,.slice DA Dn Dc,.slice DB Dm Dd]):=he
 subst he2
 have HD:=hiD hca
 clear he hca hHeld
 have B_w:=hiD (below_on2 B_w.out hb)
 have B_wa:=hiD (below_on2 B_wa.out hb)
 have B_w2:=hiD (below_on2 B_w2.out hb)
 clear hb
 refine hK.out _ _ (fun _=>?keep) (fun hHeld=>?_)
 case keep=>exact ⟨(rowCells RL.out B_w2.out),(rowCells RT.out B_wa.out)⟩
 have hHeld:=hHeld rfl
 clear hK K
 try go_simp
 refine restL_one (i:=4) (by kernel_rfl) rfl (fun K hK=>?_)
 go_simp
 go_at_call 32
 have HC:=clone_pts HA hn hc t.hood y1 (HT.out.up B_w.out).hood (by omega)
 refine HC.mono ?_
 clear HC
 rintro e y2 ⟨PA,pc,rfl,hown,hb⟩
 have HP:Hid (Rd y2 y2.heap.size 2 PA hn (hoodCells t.hood)):=Rd.of_own hown
 clear hown hHeld
 have B_w:=hiD (below_on2 B_w.out hb)
 have B_wa:=hiD (below_on2 B_wa.out hb)
 have B_w2:=hiD (below_on2 B_w2.out hb)
 have B_y1:=hiD hb
 clear hb
 refine hK.out _ _ (fun _=>?keep) (fun hHeld=>?_)
 case keep=>exact ⟨(rowCells RL.out B_w2.out),(rowCells RT.out B_wa.out)⟩
 have hHeld:=hHeld rfl
 clear hK K
 try go_simp
 refine lPureW 7 ?vn6 rfl (by rfl) ?yn6 ?rn6
 case yn6=>intro w' hSw;clear hSw;go_simp;try (with_reducible rfl)
 go_simp
 refine restL_one (i:=8) (by kernel_rfl) rfl (fun K hK=>?_)
 go_simp
 have RE:Hid (Row (World.alloc y2 (.cells #[.int .i64 (allC (lowR t)).inputs,.slice DA Dn Dc,.slice DB Dm Dd,.slice PA hn pc,.int .i64 t.states] 75)) y2.heap.size 75 [.int .i64 (allC (lowR t)).inputs,.slice DA Dn Dc,.slice DB Dm Dd,.slice PA hn pc,.int .i64 t.states]):=Row.new y2 75 [.int .i64 (allC (lowR t)).inputs,.slice DA Dn Dc,.slice DB Dm Dd,.slice PA hn pc,.int .i64 t.states]
 have hb:Below y2.heap.size y2 (World.alloc y2 (.cells #[.int .i64 (allC (lowR t)).inputs,.slice DA Dn Dc,.slice DB Dm Dd,.slice PA hn pc,.int .i64 t.states] 75)):=(Below.refl _ _).alloc (Nat.le_refl _) _
 revert RE hb
 generalize (World.alloc y2 (.cells #[.int .i64 (allC (lowR t)).inputs,.slice DA Dn Dc,.slice DB Dm Dd,.slice PA hn pc,.int .i64 t.states] 75))=y3
 intro RE hb
 clear hHeld
 have B_w:=hiD (below_on2 B_w.out hb)
 have B_wa:=hiD (below_on2 B_wa.out hb)
 have B_w2:=hiD (below_on2 B_w2.out hb)
 have B_y1:=hiD (below_on2 B_y1.out hb)
 have B_y2:=hiD hb
 clear hb
 refine hK.out _ _ (fun _=>?keep) (fun hHeld=>?_)
 case keep=>exact ⟨(rowCells RL.out B_w2.out),(rowCells RT.out B_wa.out)⟩
 have hHeld:=hHeld rfl
 clear hK K
 try go_simp
 refine lPureW 9 ?vn7 rfl (by rfl) ?yn7 ?rn7
 case yn7=>intro w' hSw;clear hSw;go_simp;try (with_reducible rfl)
 go_simp
 refine lPureW 10 ?vn8 rfl (by rfl) ?yn8 ?rn8
 case yn8=>intro w' hSw;clear hSw;go_simp;try (with_reducible rfl)
 go_simp
 refine restL_done (by kernel_rfl) ?_ _
 go_wp2_with fail
 go_ret2
 exact .inl ⟨HR.out,_,_,_,_,_,_,_,_,_,_,rfl,⟨RE.out,(HD.out.up B_y1.out),(HP.out.up B_y2.out),HR.out,(by rw [HLN.out];exact h400)⟩,B_w.out⟩
set_option maxRecDepth 100000 in
set_option maxHeartbeats 2000000 in
theorem circuit_any (b:Nat) (t:Tre) (GA OA PA:Option Addr) (gn gc on oc pn pc:Nat) (w:World) (h:EngAt w b t GA OA PA gn gc on oc pn pc):
 Calls Try.prog 13 #[.pointer (some ⟨b,0,none⟩)] w fun e w'=>e=.returned (.agg #[.int .i64 (circT t).inputs,.slice GA gn gc,.slice OA on oc])∧Below w.heap.size w w':=by
 have HE:=hiD h
 clear h
 go_enter Try.func13,Try.ntmps13
 go_upto_region 1 with fail
 obtain ⟨wa,hW9,RZ,hgr9⟩:=laid1 w [.int .i64 0,.slice none 0 0,.slice none 0 0] 37
 rewrite [hW9]
 clear hW9
 have B_w:=hiD hgr9
 clear hgr9
 have RE:Hid (Row wa b 75 [.int .i64 (circT t).inputs,.slice GA gn gc,.slice OA on oc,.slice PA pn pc,.int .i64 t.states]):=(HE.out.up B_w.out).row
 obtain ⟨k0,k1,k2,k3,k4,kl⟩:=RE.out.cells5
 obtain ⟨z0,z1,z2,zl⟩:=RZ.out.cells3
 obtain ⟨zf0,zf1,zf2⟩:=RZ.out.froz3
 go_wp2
 have Z9:=RZ.out.set3 (.int .i64 (circT t).inputs) (.slice GA gn gc) (.slice OA on oc)
 have B9:=bSet3 B_w.out w.heap.size (Nat.le_refl _) (.int .i64 (circT t).inputs) (.slice GA gn gc) (.slice OA on oc)
 obtain ⟨d0,d1,d2,-⟩:=Z9.cells3
 clear Z9
 refine bodyPost_ret (v:=.agg #[.int .i64 (circT t).inputs,.slice GA gn gc,.slice OA on oc]) (by simp [results,Try.results13,go_sem,d0,d1,d2]) rfl ?_
 exact ⟨rfl,B9⟩
end Go.Proofs.Ytiemhbogbaamlaa
/-
 A part.
-/
namespace Go.Proofs.Ytiemhbogbaamlaa
open Go.RowKit
theorem w64s_length (l:List (BitVec 64)):(w64s l).length=l.length:=by simp [w64s]
end Go.Proofs.Ytiemhbogbaamlaa
/-
 A part.
-/
namespace Go.Proofs.Ytiemhbogbaamlaa
open Go.RowKit
def slCells (sl:List Sl):List Value:=sl.map (fun s=>Value.slice s.at_ s.len s.cap)
theorem slCells_length (sl:List Sl):(slCells sl).length=sl.length:=by simp [slCells]
theorem slCells_get (sl:List Sl) (k:Nat) (h:k < sl.length):(slCells sl)[k]?=some (.slice (sl.getD k default).at_ (sl.getD k default).len (sl.getD k default).cap):=by
 simp [slCells,List.getElem?_map,List.getElem?_eq_getElem h,List.getD_eq_getElem?_getD]
structure PAt (w:World) (p:Pln) (A:Option Addr) (n:Nat) (sl:List Sl):Prop where
 rows:Rd w w.heap.size 1 A n (slCells sl)
 sll:sl.length=p.words.length
 next:∀ i,i < p.words.length→Rd w w.heap.size 1 (sl.getD i default).at_ (sl.getD i default).len (w64s (p.words.getD i []))∧(sl.getD i default).len≤maxLen
 n63:n≤maxLen
 cap:∀ i,i < p.words.length→(sl.getD i default).len≤(sl.getD i default).cap∧(sl.getD i default).cap≤maxLen
theorem PAt.up {w w':World} {p:Pln} {A:Option Addr} {n:Nat} {sl:List Sl} (h:PAt w p A n sl) (hb:Below w.heap.size w w'):PAt w' p A n sl:=
 ⟨h.rows.up hb,h.sll,fun i hi=>⟨(h.next i hi).1.up hb,(h.next i hi).2⟩,h.n63,h.cap⟩
theorem PAt.wl {w:World} {p:Pln} {A:Option Addr} {n:Nat} {sl:List Sl} (h:PAt w p A n sl):p.words.length=n:=by
 have h1:=h.rows.1
 have h2:=h.sll
 rw [slCells_length] at h1;omega
theorem PAt.row {w:World} {p:Pln} {A:Option Addr} {n:Nat} {sl:List Sl} (h:PAt w p A n sl) {k:Nat} (hk:k < n):
 ∃ ad,A=some ad∧ad.block < w.heap.size∧w.cell? (ad.add k)=some (.slice (sl.getD k default).at_ (sl.getD k default).len (sl.getD k default).cap) ∧
  Rd w w.heap.size 1 (sl.getD k default).at_ (sl.getD k default).len (w64s (p.words.getD k []))∧(sl.getD k default).len≤maxLen∧(p.words.getD k []).length=(sl.getD k default).len:=by
 have hl:=h.wl
 have hs:=h.sll
 obtain ⟨ad,u,e,hb,hu,hc⟩:=h.rows.get1 hk
 rw [slCells_get sl k (by omega)] at hu
 injection hu with hu
 obtain ⟨h1,h2⟩:=h.next k (by omega)
 refine ⟨ad,e,hb,by rw [hc,hu],h1,h2,?_⟩
 have:=h1.1
 rw [w64s_length,Nat.mul_one] at this
 exact this
theorem noPln_at (w:World):PAt w noPln none 0 []:=⟨Rd.empty none,rfl,fun i hi=>absurd hi (Nat.not_lt_zero _),by unfold maxLen;omega,fun i hi=>absurd hi (Nat.not_lt_zero _)⟩
end Go.Proofs.Ytiemhbogbaamlaa
/-
 A part.
-/
namespace Go.Proofs.Ytiemhbogbaamlaa
open Go.RowKit
theorem w64_andP (x y:BitVec 64):bits .and .u64 (x.toNat:Int) (y.toNat:Int)=((x &&& y).toNat:Int):=by
 rw [u64_and_nat _ _ x.isLt y.isLt,BitVec.toNat_and]
theorem w64_orP (x y:BitVec 64):bits .or .u64 (x.toNat:Int) (y.toNat:Int)=((x ||| y).toNat:Int):=by
 rw [u64_or_nat _ _ x.isLt y.isLt,BitVec.toNat_or]
theorem w64_andNot (x y:BitVec 64):bits .andNot .u64 (x.toNat:Int) (y.toNat:Int)=((x &&& ~~~y).toNat:Int):=by
 rw [u64_andNot_nat _ _ x.isLt y.isLt,BitVec.toNat_and,BitVec.toNat_not]
theorem w64_shr (x:BitVec 64) (k:Nat):(x.toNat:Int) / 2 ^ k=((x >>> k).toNat:Int):=by
 rw [BitVec.toNat_ushiftRight,Nat.shiftRight_eq_div_pow,Int.natCast_ediv,Int.natCast_pow];rfl
theorem w64_bit (x:BitVec 64) (b:Nat):bits .and .u64 ((x.toNat:Int) / 2 ^ b) 1=if x.getLsbD b=true then 1 else 0:=by
 rw [w64_shr]
 have h1:(1:Int)=(((1#64:BitVec 64).toNat:Nat):Int):=rfl
 rw [h1,w64_andP]
 have e:x >>> b &&& 1#64=if x.getLsbD b=true then 1#64 else 0#64:=by
  apply word_ext
  intro i hi
  rw [BitVec.getLsbD_and,BitVec.getLsbD_ushiftRight,BitVec.getLsbD_one]
  by_cases h0:i=0
  ·subst h0
   cases hb:x.getLsbD b <;> simp [hb]
  ·cases hb:x.getLsbD b <;> simp [hb,h0]
 rw [e]
 split <;> rfl
theorem ret_u64 {a b:Int} (h:a=b):Ending.returned (.int .u64 a)=.returned (.int .u64 b):=by rw [h]
theorem wprI (W:Nat):((W:Int)+63) / 64=((wpr W:Nat):Int):=by unfold wpr;omega
theorem words_any (W:Nat) (w:World) (h:W≤1000):Calls Try.prog 44 #[.int .i64 W] w fun e w'=>e=.returned (.int .i64 (wpr W))∧w=w':=by
 go_enter Try.func44,Try.ntmps44
 go_wp2
 go_ret
 exact ⟨ret_i64 (wprI W),rfl⟩
def b01 (b:Bool):Int:=if b=true then 1 else 0
set_option maxHeartbeats 1000000 in
theorem pbit_any (l:List (BitVec 64)) (x n c:Nat) (A:Option Addr) (w:World) (h:Rd w w.heap.size 1 A n (w64s l)) (hx:x / 64 < n) (hx2:x≤100000) (hn:n≤maxLen):
 Calls Try.prog 110 #[.slice A n c,.int .i64 x] w fun e w'=>e=.returned (.int .u64 (b01 ((l.getD (x / 64) 0#64).getLsbD (x % 64))))∧w=w':=by
 unfold maxLen at hn
 obtain ⟨q,hq⟩:∃ q,q=x / 64:=⟨_,rfl⟩
 obtain ⟨r,hr⟩:∃ r,r=x % 64:=⟨_,rfl⟩
 rw [← hq] at hx
 rw [← hq,← hr]
 have hqz:(x:Int) / 64=(q:Int):=by omega
 have hrz:(x:Int) % 64=(r:Int):=by omega
 have hr64:r < 64:=by omega
 obtain ⟨ad,rfl,hb,hc⟩:=h.word hx
 unfold w64 at hc
 generalize l.getD q 0#64=v at hc
 have HW:Hid (∀ b,bits .and .u64 ((v.toNat:Int) / 2 ^ b) 1=if v.getLsbD b=true then 1 else 0):=w64_bit v
 have hxq:(q:Int) < (n:Int):=by omega
 clear hq hr h hx
 go_enter Try.func110,Try.ntmps110
 go_wp2
 go_ret
 refine ⟨ret_u64 ?_,rfl⟩
 rw [HW.out,b01]
end Go.Proofs.Ytiemhbogbaamlaa
/-
 A part.
-/
namespace Go.Proofs.Ytiemhbogbaamlaa
open Go.RowKit
theorem ret_ib {a b:Int} {x y:Bool} (h:a=b) (h':x=y):Ending.returned (.tuple #[.int .i64 a,.bool x])=.returned (.tuple #[.int .i64 b,.bool y]):=by rw [h,h']
theorem mod_walk2 (n m:Int) (hm:0 < m):(Int.tmod n m+m) % m=n % m:=by
 have h1:0≤Int.tmod n m+m:=by
  have:=Int.lt_tmod_of_pos n hm
  omega
 rw [← Int.tmod_eq_emod_of_nonneg h1,mod_walk n m hm]
theorem sizedF_false {a b e:Int} (h:¬ ((1≤a∧a≤256)∧(1≤b∧b≤256))):sizedF a b e=false:=by
 unfold sizedF;rw [decide_eq_false];omega
set_option maxHeartbeats 400000 in
theorem sized_any (a b e:Int) (w:World):
 Calls Try.prog 74 #[.int .i64 a,.int .i64 b,.int .i64 e] w fun en w'=>en=.returned (.bool (sizedF a b e))∧w=w':=by
 by_cases hr:(1≤a∧a≤256)∧(1≤b∧b≤256)
 ·obtain ⟨ha,hb⟩:=hr
  have hp:=prod_bd ha hb
  obtain ⟨ha1,ha2⟩:=ha
  obtain ⟨hb1,hb2⟩:=hb
  obtain ⟨hp1,hp2⟩:=hp
  go_enter Try.func74,Try.ntmps74
  go_wp2
  all_goals go_ret
  all_goals refine ⟨ret_bool ?_,rfl⟩
  all_goals unfold sizedF
  all_goals (rw [Bool.eq_iff_iff];simp;omega)
 ·rw [sizedF_false hr]
  go_enter Try.func74,Try.ntmps74
  go_wp2
  all_goals go_ret
  all_goals refine ⟨ret_bool ?_,rfl⟩
  all_goals first | rfl | (exfalso;omega)
end Go.Proofs.Ytiemhbogbaamlaa
/-
 A part.
-/
namespace Go.Proofs.Ytiemhbogbaamlaa
open Go.RowKit
theorem int_infog:(Try.prog.info? 3).map (fun i=>(i.zero,i.size,i.bytes))=some (some (.int .i64 0),1,8):=by kernel_rfl
theorem ints_zeros (n:Nat):ints (zeros n)=List.replicate n (.int .i64 0):=by simp [ints,zeros]
def GPost (r:Grd) (k:Int) (w:World) (e:Ending) (w':World):Prop:=
 ∃ (A:Option Addr) (n c:Nat),e=.returned (.tuple #[.agg #[.int .i64 r.w,.int .i64 r.h,.int .i64 r.edge,.slice A n c],.int .i64 k])∧GAt w' r A n∧Below w.heap.size w w'
def NewOr (A:Option Addr) (n b B:Nat):Prop:=∀ ad,A=some ad→0 < n→ad.block < b∨B≤ad.block
theorem NewOr.mono {A:Option Addr} {n b B b' B':Nat} (h:NewOr A n b B) (h1:b≤b') (h2:B'≤B):NewOr A n b' B':=fun ad e hn=>(h ad e hn).imp (fun h=>by omega) (fun h=>by omega)
theorem NewOr.none {n b B:Nat}:NewOr none n b B:=fun ad e=>by cases e
theorem Rd.newOr {w:World} {B sz n c:Nat} {A:Option Addr} {xs:List Value} (h:Rd w B sz A n xs):NewOr A n B c:=fun ad e hn=>by
 obtain ⟨a',e',hb',_⟩:=h.2 hn
 rw [e] at e'
 cases e'
 exact .inl hb'
theorem GAt.farSet {W:World} {g:Grd} {A:Option Addr} {n b B:Nat} (h:GAt W g A n) (ho:NewOr A n b B) {p:Addr} (h1:b≤p.block) (h2:p.block < B) (u:Value):GAt (W.setCell p u) g A n:=
 ⟨⟨h.cells.1,fun hn=>let ⟨a,e,hb,hc⟩:=h.cells.2 hn;⟨a,e,by rw [World.size_setCell];exact hb,fun j v hv=>by
  rw [← hc j v hv]
  have hne:(a.add j).block≠p.block:=by
   rw [show (a.add j).block=a.block by unfold Addr.add;split <;> rfl]
   have:=ho a e hn
   omega
  unfold World.cell?
  rw [Below.heap_setCell W p u _ hne]⟩⟩,h.c63⟩
end Go.Proofs.Ytiemhbogbaamlaa
/-
 A part.
-/
namespace Go.Proofs.Ytiemhbogbaamlaa
open Go.RowKit
def NewPost (a b e:Int) (w:World) (en:Ending) (w':World):Prop:=
 (sizedF a b e=false∧en=.returned (.tuple #[.agg #[.int .i64 0,.int .i64 0,.int .i64 0,.slice none 0 0],.int .i64 2])∧Below w.heap.size w w') ∨
 (sizedF a b e=true∧∃ g,en=.returned (.tuple #[.agg #[.int .i64 a,.int .i64 b,.int .i64 e,.slice (some ⟨g,0,none⟩) (a * b).toNat (a * b).toNat],.int .i64 0])∧Row w' g 3 (ints (zeros (a * b).toNat))∧w.heap.size≤g∧Below w.heap.size w w')
set_option maxHeartbeats 1000000 in
theorem gNew_any (a b e:Int) (w:World):Calls Try.prog 46 #[.int .i64 a,.int .i64 b,.int .i64 e] w (NewPost a b e w):=by
 cases hs:sizedF a b e
 ·go_enter Try.func46,Try.ntmps46
  go_wp2_with fail
  refine (sized_any a b e _).mono ?_
  rw [hs]
  rintro en w1 ⟨rfl,rfl⟩
  go_wp2
  exact bodyPost_ret (v:=.tuple #[.agg #[.int .i64 0,.int .i64 0,.int .i64 0,.slice none 0 0],.int .i64 2]) (by simp [results,Try.results46,go_sem]) rfl (.inl ⟨hs,rfl,by go_grown⟩)
 ·obtain ⟨⟨q1,q2⟩,⟨h1,h2⟩,hm',he1,he2⟩:=sizedF_parts hs
  obtain ⟨p1,p2⟩:=prod_bd ⟨q1,q2⟩ ⟨h1,h2⟩
  obtain ⟨n,hn⟩:∃ n:Nat,a * b=n:=⟨(a * b).toNat,by omega⟩
  have HN:Hid ((a * b).toNat=n):=by show _=_;omega
  have hmk:=fun W=>make_like (P:=Try.prog) Try.underlying35 int_infog rfl n (a * b) hn (by omega) (by omega) W
  clear hn
  go_enter Try.func46,Try.ntmps46
  go_wp2_with fail
  refine (sized_any a b e _).mono ?_
  rw [hs]
  rintro en w1 ⟨rfl,rfl⟩
  go_wp2
  refine bodyPost_ret (v:=.tuple #[.agg #[.int .i64 a,.int .i64 b,.int .i64 e,.slice (some ⟨w.heap.size+1,0,none⟩) n n],.int .i64 0]) (by simp [results,Try.results46,go_sem]) rfl (.inr ⟨hs,w.heap.size+1,by rw [HN.out],?_,by omega,by go_grown⟩)
  rw [HN.out,ints_zeros]
  exact rowNew1 w _ 3 (List.replicate n (.int .i64 0))
end Go.Proofs.Ytiemhbogbaamlaa
/-
 A part.
-/
namespace Go.Proofs.Ytiemhbogbaamlaa
open Go.RowKit
theorem all_false_row (l:List (List (BitVec 64))) (f:List (BitVec 64)→Bool) (k:Nat) (hk:k < l.length) (h:f (l.getD k [])=false):l.all f=false:=by
 rw [List.all_eq_false]
 refine ⟨l.getD k [],?_,by rw [h];simp⟩
 rw [List.getD_eq_getElem?_getD,List.getElem?_eq_getElem hk]
 exact List.getElem_mem hk
theorem all_true_row (l:List (List (BitVec 64))) (f:List (BitVec 64)→Bool) (h:∀ k,k < l.length→f (l.getD k [])=true):l.all f=true:=by
 rw [List.all_eq_true]
 intro x hx
 obtain ⟨k,hk,rfl⟩:=List.getElem_of_mem hx
 have:=h k hk
 rw [List.getD_eq_getElem?_getD,List.getElem?_eq_getElem hk] at this
 exact this
theorem planeOk_len {W H:Nat} {l:List (BitVec 64)} (h:l.length≠H * wpr W):planeOk W H l=false:=by
 unfold planeOk;rw [decide_eq_false h];rfl
theorem planeOk_pad {W H:Nat} {l:List (BitVec 64)} (y:Nat) (hy:y < H) (h:padOk W (wpr W) l y=false):planeOk W H l=false:=by
 unfold planeOk
 have:decide (∀ y,y < H→padOk W (wpr W) l y=true)=false:=decide_eq_false (fun h2=>by rw [h2 y hy] at h;cases h)
 rw [this,Bool.and_false]
theorem planeOk_all {W H:Nat} {l:List (BitVec 64)} (h1:l.length=H * wpr W) (h:∀ y,y < H→padOk W (wpr W) l y=true):planeOk W H l=true:=by
 unfold planeOk;rw [decide_eq_true h1,decide_eq_true h];rfl
theorem last_pad (l:List (BitVec 64)) (W n k y:Nat) (hn:1≤n) (hk:k=64 * n - W) (h1:64 * (n - 1) < W) (h2:W≤64 * n):
 (((l.getD (y * n+(n - 1)) 0#64 &&& ~~~(BitVec.allOnes 64 >>> k)).toNat:Int) != 0)=!padOk W n l y:=by
 generalize hx:l.getD (y * n+(n - 1)) 0#64=x
 have hb:∀ j,j < 64→(x &&& ~~~(BitVec.allOnes 64 >>> k)).getLsbD j=(x.getLsbD j && decide (W≤64 * (n - 1)+j)):=by
  intro j hj
  rw [BitVec.getLsbD_and,BitVec.getLsbD_not,BitVec.getLsbD_ushiftRight,BitVec.getLsbD_allOnes]
  by_cases hw:W≤64 * (n - 1)+j
  ·have:¬ k+j < 64:=by omega
   simp [hw,this,hj]
  ·have:k+j < 64:=by omega
   simp [hw,this,hj]
 have key:x &&& ~~~(BitVec.allOnes 64 >>> k)=0#64 ↔ padOk W n l y=true:=by
  rw [padOk_iff,hx]
  constructor
  ·intro h j hj hw
   have:=hb j hj
   rw [h] at this
   simpa [hw] using this.symm
  ·intro h
   apply word_ext
   intro j hj
   rw [hb j hj]
   by_cases hw:W≤64 * (n - 1)+j
   ·rw [h j hj hw];simp
   ·simp [hw]
 generalize x &&& ~~~(BitVec.allOnes 64 >>> k)=v at key
 cases hp:padOk W n l y
 ·rw [hp] at key
  have:v≠0#64:=fun e=>by have:=key.1 e;cases this
  rw [Bool.not_false,bne_iff_ne]
  intro h0
  exact this (BitVec.eq_of_toNat_eq (by simp;omega))
 ·rw [key.2 hp];rfl
theorem ones_shr (k:Nat):(18446744073709551615:Int) / 2 ^ k=((BitVec.allOnes 64 >>> k).toNat:Int):=by
 have h:=w64_shr (BitVec.allOnes 64) k
 rw [← h];rfl
set_option maxRecDepth 100000 in
set_option maxHeartbeats 4000000 in
theorem plRight_any (p:Pln) (A:Option Addr) (n c:Nat) (sl:List Sl) (w:World) (h:PAt w p A n sl):
 Calls Try.prog 45 #[.agg #[.int .i64 p.w,.int .i64 p.h,.int .i64 p.edge,.slice A n c]] w fun e w'=>e=.returned (.bool (rightPl p))∧Below w.heap.size w w':=by
 have H:=hiD h
 have HWL:Hid (p.words.length=n):=h.wl
 have hm:=h.n63
 unfold maxLen at hm
 clear h
 cases hs:sizedF p.w p.h p.edge
 ·have HF:Hid (rightPl p=false):=by show _=_;rw [rightPl,hs];rfl
  have HS:=hiD hs
  clear hs
  go_enter Try.func45,Try.ntmps45
  go_wp2_with fail
  refine (gNew_any p.w p.h p.edge _).mono ?_
  rintro e w1 h1
  rcases h1 with ⟨_,rfl,hb⟩ | ⟨h2,_⟩
  ·have HB:Hid (Below w.heap.size w w1):=below_next hb (by go_grown)
   clear hb
   go_wp2
   go_ret
   exact ⟨ret_bool HF.out.symm,below_on2 HB.out (by go_grown)⟩
  ·rw [HS.out] at h2;cases h2
 obtain ⟨⟨s1,s2⟩,⟨s3,s4⟩,_,_⟩:=sizedF_parts hs
 have HSZ:=hiD hs
 obtain ⟨W,hW⟩:∃ W:Nat,p.w=(W:Int):=⟨p.w.toNat,by omega⟩
 obtain ⟨Hh,hH⟩:∃ Hh:Nat,p.h=(Hh:Int):=⟨p.h.toNat,by omega⟩
 have HW:=hiD hW
 have HH:=hiD hH
 have HR:Hid (rightPl p=(decide (1≤n∧n≤3) && p.words.all (planeOk W Hh))):=by
  show _=_
  rw [rightPl,hs,Bool.true_and,HWL.out,hW,hH,Int.toNat_natCast,Int.toNat_natCast]
 have hW1:1≤W∧W≤256:=by omega
 have hH1:1≤Hh∧Hh≤256:=by omega
 obtain ⟨w1',w2',w3'⟩:=wpr_bd hW1.1
 obtain ⟨nn,hnn⟩:∃ nn,nn=wpr W:=⟨_,rfl⟩
 have HNN:Hid (wpr W=nn):=hnn.symm
 rw [← hnn] at w1' w2' w3'
 have hn4:nn≤4:=by omega
 clear hs s1 s2 s3 s4 hW hH hnn
 go_enter Try.func45,Try.ntmps45
 go_wp2_with fail
 refine (gNew_any p.w p.h p.edge _).mono ?_
 rintro e w1 h1
 rcases h1 with ⟨h2,_⟩ | ⟨_,g,rfl,_,_,hb⟩
 ·rw [HSZ.out] at h2;cases h2
 have RA:Hid (Row w1 w.heap.size 42 [.int .i64 p.w,.int .i64 p.h,.int .i64 p.edge,.slice A n c]):=rowCells (Row.new w 42 [.int .i64 p.w,.int .i64 p.h,.int .i64 p.edge,.slice A n c]) hb
 have HB:Hid (Below w.heap.size w w1):=below_next hb (by go_grown)
 clear hb
 generalize (p.w * p.h).toNat=cnt
 rw [HW.out,HH.out] at RA
 rw [HW.out,HH.out]
 obtain ⟨k0,k1,k2,k3,kl⟩:=RA.out.cells4
 by_cases q1:n < 1
 ·have HF:Hid (rightPl p=false):=by show _=_;rw [HR.out,decide_eq_false (by omega)];rfl
  go_wp2
  go_ret
  exact ⟨ret_bool HF.out.symm,below_on2 HB.out (by go_grown)⟩
 by_cases q3:3 < n
 ·have HF:Hid (rightPl p=false):=by show _=_;rw [HR.out,decide_eq_false (by omega)];rfl
  go_wp2
  go_ret
  exact ⟨ret_bool HF.out.symm,below_on2 HB.out (by go_grown)⟩
 go_wp2_with fail
 refine (words_any W _ (by omega)).mono ?_
 rw [HNN.out]
 rintro e w2 ⟨rfl,rfl⟩
 obtain ⟨k,hk⟩:∃ k,k=64 * nn - W:=⟨_,rfl⟩
 have hkz:64 * (nn:Int) - (W:Int)=(k:Int):=by omega
 have hk64:k < 64:=by omega
 have HKK:=hiD hk
 obtain ⟨M,hM⟩:∃ M,M=Hh * nn:=⟨_,rfl⟩
 have hMz:(Hh:Int) * (nn:Int)=(M:Int):=by rw [hM,Int.natCast_mul]
 have hMb:M≤1024:=by rw [hM];exact Nat.mul_le_mul hH1.2 hn4
 have HM:=hiD hM
 have hwM:IntKind.i64.wrap (M:Int)=(M:Int):=IntWalk.i64_in _ (by omega)
 clear hk hM
 go_wp2
 have HLS:=ones_shr k
 generalize (18446744073709551615:Int) / 2 ^ k=lst at HLS ⊢
 have HLST:=hiD HLS
 clear HLS k0 k1 k2 k3 kl
 have RA2:Hid (Row (World.alloc w1 (.cells #[.int .i64 W,.int .i64 Hh,.int .i64 p.edge,.slice (some ⟨g,0,none⟩) cnt cnt] 54)) w.heap.size 42 [.int .i64 W,.int .i64 Hh,.int .i64 p.edge,.slice A n c]):=RA.out.alloc _
 have HB2:Hid (Below w.heap.size w (World.alloc w1 (.cells #[.int .i64 W,.int .i64 Hh,.int .i64 p.edge,.slice (some ⟨g,0,none⟩) cnt cnt] 54))):=below_on2 HB.out (by go_grown)
 revert RA2 HB2
 generalize World.alloc w1 (.cells #[.int .i64 W,.int .i64 Hh,.int .i64 p.edge,.slice (some ⟨g,0,none⟩) cnt cnt] 54)=wA
 intro RA2 HB2
 obtain ⟨k0,k1,k2,k3,kl⟩:=RA2.out.cells4
 go_loopg [8,9,47] n (fun gg _ _ s47 wr=>∃ kk:Nat,kk≤n∧n - kk≤gg∧s47=.int .i64 kk∧wr=wA∧Aside (∀ b,b < kk→planeOk W Hh (p.words.getD b [])=true))
 case atStart=>exact ⟨0,Nat.zero_le _,by omega,rfl,rfl,fun j hj=>absurd hj (Nat.not_lt_zero _)⟩
 case round=>
  obtain ⟨kk,hkk,hgg,rfl,rfl,AA⟩:=hrel
  by_cases hlt:kk < n
  ·have hltz:(kk:Int) < (n:Int):=by omega
   obtain ⟨ad,rfl,hbl,hc,hrd,hlm,hle⟩:=(H.out.up HB2.out).row hlt
   generalize hll:p.words.getD kk []=l at hrd hle
   have HLL:=hiD hll
   generalize sl.getD kk default=s at hc hrd hlm hle
   obtain ⟨sa,sn,sc⟩:=s
   dsimp only at hc hrd hlm hle
   have HLE:=hiD hle
   unfold maxLen at hlm
   have HRD:=hiD hrd
   clear hll hle hrd
   by_cases hsn:sn=M
   case neg=>
    have hne:((sn:Int) != (M:Int))=true:=by rw [bne_iff_ne];omega
    have HF:Hid (rightPl p=false):=by
     show _=_
     rw [HR.out,all_false_row _ _ kk (by rw [HWL.out];exact hlt) (planeOk_len (by rw [HLL.out,HLE.out,HNN.out,← HM.out];exact hsn)),Bool.and_false]
    clear hsn
    go_wp2
    go_ret
    exact ⟨ret_bool HF.out.symm,HB2.out⟩
   subst hsn
   have hne:((sn:Int) != (sn:Int))=false:=by simp
   go_wp2
   clear hne
   go_loopg [9,60] Hh (fun gg _ s60 wi=>∃ y:Nat,y≤Hh∧Hh - y≤gg∧s60=.int .i64 y∧wi=wr∧Aside (∀ j,j < y→padOk W nn l j=true))
   case atStart=>exact ⟨0,Nat.zero_le _,by omega,rfl,rfl,fun j hj=>absurd hj (Nat.not_lt_zero _)⟩
   case round=>
    obtain ⟨y,hy,hgy,rfl,rfl,AY⟩:=hrel
    by_cases hlty:y < Hh
    ·have hltyz:(y:Int) < (Hh:Int):=by omega
     obtain ⟨m,hmm⟩:∃ m,m=y * nn:=⟨_,rfl⟩
     have hmz:(y:Int) * (nn:Int)=(m:Int):=by rw [hmm,Int.natCast_mul]
     have hmb:m+(nn - 1) < sn:=by
      have h1:=row_ltP (n:=nn) (H:=Hh) (i:=nn - 1) (by omega) hlty
      have h2:=HM.out
      rw [← hmm,← h2] at h1
      exact h1
     have hw1:IntKind.i64.wrap (m:Int)=(m:Int):=IntWalk.i64_in _ (by omega)
     have hi2:(m:Int)+(nn:Int) - 1 < (sn:Int):=by omega
     have hi3:((m:Int)+(nn:Int) - 1).toNat=m+(nn - 1):=by omega
     have hi4:(0:Int)≤(m:Int)+(nn:Int) - 1:=by omega
     obtain ⟨rd,rfl,hrb,hrc⟩:=HRD.out.word hmb
     unfold w64 at hrc
     have hp:=last_pad l W nn k y w1' HKK.out w2' w3'
     rw [← hmm] at hp
     have HAN:=w64_andNot (l.getD (m+(nn - 1)) 0#64) (BitVec.allOnes 64 >>> k)
     rw [← HLST.out] at HAN
     rw [← HAN] at hp
     generalize l.getD (m+(nn - 1)) 0#64=v at hrc hp
     clear hmm HAN
     cases hpo:padOk W nn l y
     all_goals rw [hpo] at hp
     ·have HF:Hid (rightPl p=false):=by
       show _=_
       rw [HR.out,all_false_row _ _ kk (by rw [HWL.out];exact hlt) (planeOk_pad y hlty (by rw [HLL.out,HNN.out];exact hpo)),Bool.and_false]
      go_wp2
      go_ret
      exact ⟨ret_bool HF.out.symm,HB2.out⟩
     ·have HPO:=hiD hpo
      clear hpo
      go_wp2
      go_roundg (Hh - (y+1))
      case measure=>omega
      case rel=>
       refine ⟨y+1,by omega,by omega,by go_num,rfl,(show Aside _ from fun j hj=>?_)⟩
       by_cases e:j=y
       ·subst e;exact HPO.out
       ·exact AY.out j (by omega)
    ·have hltyz:¬ (y:Int) < (Hh:Int):=by omega
     obtain rfl:y=Hh:=by omega
     have HPK:Hid (planeOk W y l=true):=planeOk_all (by rw [HNN.out,HLE.out,HM.out]) (fun j hj=>by rw [HNN.out];exact AY.out j hj)
     go_wp2
     go_roundg (n - (kk+1))
     case measure=>omega
     case rel=>
      refine ⟨kk+1,by omega,by omega,by go_num,rfl,(show Aside _ from fun j hj=>?_)⟩
      by_cases e:j=kk
      ·subst e;rw [HLL.out];exact HPK.out
      ·exact AA.out j (by omega)
  ·have hltz:¬ (kk:Int) < (n:Int):=by omega
   obtain rfl:kk=n:=by omega
   go_wp2
   go_ret
   refine ⟨ret_bool ?_,HB2.out⟩
   rw [HR.out,decide_eq_true (by omega),Bool.true_and]
   symm
   exact all_true_row _ _ (fun j hj=>AA.out j (by rw [HWL.out] at hj;exact hj))
end Go.Proofs.Ytiemhbogbaamlaa
