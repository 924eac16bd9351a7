/-
 A part.
-/
import Derived.Test.YtiemhbogbaamlaaYF1
import Derived.Test.YtiemhbogbaamlaaYF31
import Derived.Test.YtiemhbogbaamlaaYF42
import Derived.Test.YtiemhbogbaamlaaYF19
set_option linter.unusedSimpArgs false
set_option linter.unusedVariables false
namespace Go.Proofs.Ytiemhbogbaamlaa
open Go.RowKit
set_option maxRecDepth 100000 in
set_option maxHeartbeats 8000000 in
theorem news_law (t:Tre) (HA NA:Option Addr) (hn hc nn nc:Nat) (sl:List Sl) (w:World) (ht:TAt w t HA NA hn nn sl):
 Calls Try.prog 3 #[.agg #[.int .i64 t.states,.slice HA hn hc,.slice NA nn nc]] w fun e w'=>e=.returned (.bool true)∧Below w.heap.size w w':=by
 have HT:=hiD ht
 have HLN:Hid (t.nodes.length=nn):=ht.nl
 clear ht
 go_enter Try.func3,Try.ntmps3
 go_upto_region 1 with fail
 obtain ⟨wa,hW9,RT,hgr9⟩:=laid1 w [.int .i64 t.states,.slice HA hn hc,.slice NA nn nc] 25
 rewrite [hW9]
 clear hW9
 have B_w:=hiD hgr9
 clear hgr9
 obtain ⟨t0,t1,t2,tl⟩:=RT.out.cells3
 go_wp2_with fail
 have HC:=fewT_any t HA NA hn hc nn nc sl wa (HT.out.up B_w.out)
 obtain ⟨q,hq⟩:∃ q,fewT t=q:=⟨_,rfl⟩
 have HF:=hiU hq
 rw [hq] at HC
 clear hq
 refine HC.mono ?_
 clear HC
 rintro e w1 ⟨rfl,hb⟩
 have B_w:=hiD (below_on2 B_w.out hb)
 have B_wa:=hiD hb
 clear t0 t1 t2 tl
 clear hb
 cases q
 ·skip
  go_wp2_with fail
  refine (alive_any w1).mono ?_
  rintro e wl ⟨rfl,hb⟩
  go_wp2
  go_ret
  exact ⟨rfl,below_on2 B_w.out hb⟩
 have H4:Hid (nn≤400):=(by show _≤_;rw [← HLN.out];exact (fewT_parts (HF.out ())).2)
 obtain ⟨t0,t1,t2,tl⟩:=(rowCells RT.out B_wa.out).cells3
 go_wp2_with fail
 have HC:=new_any t HA NA hn hc nn nc sl w1 (HT.out.up B_w.out) H4.out
 unfold EngPost at HC
 refine HC.mono ?_
 clear HC
 rintro e w2 (⟨hrt,b,GA,OA,PA,gn,gc,on,oc,pn,pc,rfl,heng,hb⟩ | ⟨hrt,rfl,hb⟩)
 rotate_left 1
 ·have HLE:Hid (lowErr t=11):=(by show _=_;unfold lowErr;rw [if_neg (by rw [hrt];decide)])
  clear hrt
  have B_w:=hiD (below_on2 B_w.out hb)
  have B_wa:=hiD (below_on2 B_wa.out hb)
  clear t0 t1 t2 tl
  clear hb
  obtain ⟨t0,t1,t2,tl⟩:=(rowCells RT.out B_wa.out).cells3
  go_wp2_with fail
  have HC:=rCheck_any t HA NA hn hc nn nc sl w2 (HT.out.up B_w.out) H4.out
  rw [HLE.out] at HC
  refine HC.mono ?_
  clear HC
  rintro e w3 ⟨rfl,hb⟩
  have B_w:=hiD (below_on2 B_w.out hb)
  clear t0 t1 t2 tl
  clear hb
  go_wp2_with fail
  refine (alive_any w3).mono ?_
  rintro e wl ⟨rfl,hb⟩
  go_wp2
  go_ret
  exact ⟨rfl,below_on2 B_w.out hb⟩
 have HLE:Hid (lowErr t=0):=(by show _=_;unfold lowErr;rw [if_pos hrt])
 have HE:=hiD heng
 clear hrt heng
 have B_w:=hiD (below_on2 B_w.out hb)
 have B_wa:=hiD (below_on2 B_wa.out hb)
 have B_w1:=hiD hb
 clear t0 t1 t2 tl
 clear hb
 obtain ⟨t0,t1,t2,tl⟩:=(rowCells RT.out B_wa.out).cells3
 go_wp2_with fail
 have HC:=rCheck_any t HA NA hn hc nn nc sl w2 (HT.out.up B_w.out) H4.out
 rw [HLE.out] at HC
 refine HC.mono ?_
 clear HC
 rintro e w3 ⟨rfl,hb⟩
 have B_w:=hiD (below_on2 B_w.out hb)
 have B_wa:=hiD (below_on2 B_wa.out hb)
 have B_w2:=hiD hb
 clear t0 t1 t2 tl
 clear hb
 go_upto_region 8 with fail
 refine wp_region_L (fun w'=>Row w' (w.heap.size) 25 [.int .i64 t.states,.slice HA hn hc,.slice NA nn nc]) [] (by kernel_rfl) (by exact Row.drew (rowCells RT.out B_wa.out)) (fun hHeld=>?_)
 have B_w:Hid (Below w.heap.size w (World.drew w3)):=B_w.out.drew
 have B_wa:Hid (Below wa.heap.size wa (World.drew w3)):=B_wa.out.drew
 have B_w2:Hid (Below w2.heap.size w2 (World.drew w3)):=B_w2.out.drew
 have B_w3:Hid (Below w3.heap.size w3 (World.drew w3)):=(Below.refl _ _).drew
 revert hHeld B_w B_wa B_w2 B_w3
 generalize World.drew w3=w3q
 intro hHeld B_w B_wa B_w2 B_w3
 refine lPureW 0 ?vz1 rfl (by rfl) ?yz1 ?rz1
 case yz1=>intro w' hSw;clear hSw;go_simp;try (with_reducible rfl)
 go_simp
 refine lTakeW 2 ?vz2 [] rfl (by rfl) ?yz2 hHeld ?rz2
 case yz2=>
  intro w' hSw
  have s0:=hSw
  clear hSw
  have hT0:=hiD s0
  obtain ⟨z0_0,z0_1,z0_2,z0_l⟩:=hT0.out.cells3
  clear s0
  go_simp
  try (with_reducible rfl)
 go_simp
 refine restL_one (i:=1) (by kernel_rfl) rfl (fun K hK=>?_)
 go_simp
 go_at_call 13
 have HC:=circuit_any b t GA OA PA gn gc on oc pn pc w3q (HE.out.up B_w2.out)
 refine HC.mono ?_
 clear HC
 rintro e y1 ⟨rfl,hb⟩
 clear hHeld
 have B_w:=hiD (below_on2 B_w.out hb)
 have B_wa:=hiD (below_on2 B_wa.out hb)
 have B_w2:=hiD (below_on2 B_w2.out hb)
 clear hb
 refine hK.out _ _ (fun _=>?keep) (fun hHeld=>?_)
 case keep=>exact (rowCells RT.out B_wa.out)
 have hHeld:=hHeld rfl
 clear hK K
 try go_simp
 refine restL_one (i:=3) (by kernel_rfl) rfl (fun K hK=>?_)
 go_simp
 go_at_call 14
 have HC:=rCircuit_any t HA NA hn hc nn nc sl y1 (HT.out.up B_w.out) H4.out
 unfold CircRet at HC
 refine HC.mono ?_
 clear HC
 rintro e y2 ⟨DA,EA,dn,dc,en,ec,rfl,hca,hb⟩
 have HD:=hiD hca
 clear hca hHeld
 have B_w:=hiD (below_on2 B_w.out hb)
 have B_wa:=hiD (below_on2 B_wa.out hb)
 have B_w2:=hiD (below_on2 B_w2.out hb)
 clear hb
 refine hK.out _ _ (fun _=>?keep) (fun hHeld=>?_)
 case keep=>exact (rowCells RT.out B_wa.out)
 have hHeld:=hHeld rfl
 clear hK K
 try go_simp
 refine restL_one (i:=4) (by kernel_rfl) rfl (fun K hK=>?_)
 go_simp
 go_at_call 12
 have HC:=rSameZ_at (circT t) (circT t) GA OA DA EA gn gc on oc dn dc en ec y2 (HE.out.up B_w2.out).circ HD.out
 rw [show sameC (circT t) (circT t)=true by simp [sameC]] at HC
 refine HC.mono ?_
 clear HC
 rintro e y3 ⟨rfl,hb⟩
 clear hHeld
 have B_w:=hiD (below_on2 B_w.out hb)
 have B_wa:=hiD (below_on2 B_wa.out hb)
 clear hb
 refine hK.out _ _ (fun _=>?keep) (fun hHeld=>?_)
 case keep=>exact (rowCells RT.out B_wa.out)
 have hHeld:=hHeld rfl
 clear hK K
 try go_simp
 refine lPureW 5 ?vz3 rfl (by rfl) ?yz3 ?rz3
 case yz3=>intro w' hSw;clear hSw;go_simp;try (with_reducible rfl)
 go_simp
 refine restL_one (i:=6) (by kernel_rfl) rfl (fun K hK=>?_)
 go_simp
 go_at_call 9
 refine (alive_any y3).mono ?_
 rintro e y4 ⟨rfl,hb⟩
 clear hHeld
 have B_w:=hiD (below_on2 B_w.out hb)
 have B_wa:=hiD (below_on2 B_wa.out hb)
 clear hb
 refine hK.out _ _ (fun _=>?keep) (fun hHeld=>?_)
 case keep=>exact (rowCells RT.out B_wa.out)
 have hHeld:=hHeld rfl
 clear hK K
 try go_simp
 refine lPureW 7 ?vz4 rfl (by rfl) ?yz4 ?rz4
 case yz4=>intro w' hSw;clear hSw;go_simp;try (with_reducible rfl)
 go_simp
 refine lPureW 8 ?vz5 rfl (by rfl) ?yz5 ?rz5
 case yz5=>intro w' hSw;clear hSw;go_simp;try (with_reducible rfl)
 go_simp
 refine restL_done (by kernel_rfl) ?_ _
 go_wp2_with fail
 go_ret
 exact ⟨rfl,B_w.out⟩
end Go.Proofs.Ytiemhbogbaamlaa
/-
 A part.
-/
namespace Go.Proofs.Ytiemhbogbaamlaa
open Go.RowKit Go.ChangeShapes Go.WideShapes Go.ChangeAt Go.Joins
set_option maxRecDepth 100000 in
theorem planestepNews_lifted (os:Os) (started:os.Started) (H:Type) (enc:TypeId × Value→H):
 ReturnsInHanded {} Try.checked os 3 .any (Rows.planestepNewsSpec.pre6 enc Try.prog Try.f3 Rows.planestepNewsRow.domain false) (Rows.planestepNewsSpec.post enc Try.prog Try.f3 false true false false):=by
 refine returnsInHanded_of_change (C:=Try.checked) Try.own' started (by kernel_rfl) Try.func3
  (ChangeSpec.witness6 (enc:=enc) (C:=Try.checked) false ⟨#[],#[.agg #[.int .i64 0,.slice none 0 0,.slice none 0 0]],[]⟩ 8 (by kernel_rfl) (by kernel_rfl) (by kernel_rfl) (by kernel_rfl)) ?_
 intro W base args ds gs before hval0 hW hcnd _
 have hval:∀ (j:Nat) t v,Try.f3.params[j]?=some t→args[j]?=some v→Value.okWide Try.prog W .any base t v:=hval0
 have hW':=hW
 obtain ⟨p,q,hA0,hV,rfl,hfz,hnd⟩:=hW
 have hA:DataW.TrodAll enc Try.prog W 0 (fun _=>true) true Try.f3.params.toList args.toList ds p:=hA0
 rw [Try.params3] at hA hval
 obtain ⟨v0,d0,rfl,rfl,h0⟩:=trodAll_one hA
 obtain ⟨rfl,rfl⟩:=trodVars_none hV
 have h0k:=h0
 have hlt0:∀ x ∈ p,x.block < W.heap.size:=fun x hx=>hW'.lt x (by simp [hx])
 obtain ⟨t0,HA0,hn0,hc0,NA0,nn0,nc0,sl0,rfl,hm0⟩:=open_tree (hval 0 25 v0 rfl rfl) h0
 clear hA0 hval0
 refine (news_law t0 HA0 NA0 hn0 hc0 nn0 nc0 sl0 W hm0).mono fun e W' ⟨he,hb⟩=>?_
 subst he
 exact ⟨_,rfl,law_post (pa:=p) (pv:=[]) hW' (fun _ _ _=>trodAll_mk1 (shut_bool Try.underlying4 true)) (trodAll_mk1 (Below.trod Try.laidOut' (by kernel_rfl) (of_decide_eq_true (by kernel_rfl)) h0k hb hlt0)) rfl hb⟩
theorem planestepNews_holds:Rows.PlanestepNewsSaid:=
 OpenClaim.holds_of_wide 3 Try.f3 rfl rfl rfl rfl rfl rfl rfl ⟨rfl,rfl,rfl,rfl,rfl⟩ rfl rfl rfl rfl rfl (by kernel_rfl) Try.func3 (by kernel_rfl)
  (of_decide_eq_true (by kernel_rfl)) (by unfold Func.isWrapper;first | (rw [if_pos (by decide +kernel)];kernel_rfl) | (rw [if_neg (by decide +kernel)];exact ⟨rfl,rfl⟩))
  (fun os started H enc _=>planestepNews_lifted os started H enc)
end Go.Proofs.Ytiemhbogbaamlaa
