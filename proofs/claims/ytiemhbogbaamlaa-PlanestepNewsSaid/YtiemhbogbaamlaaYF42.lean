/-
 A part.
-/
import Derived.Test.YtiemhbogbaamlaaYF22
import Derived.Test.YtiemhbogbaamlaaYF7
import Derived.Test.YtiemhbogbaamlaaYF41
import Derived.Test.YtiemhbogbaamlaaYF40
set_option linter.unusedSimpArgs false
set_option linter.unusedVariables false
namespace Go.Proofs.Ytiemhbogbaamlaa
open Go.RowKit
set_option maxRecDepth 100000 in
set_option maxHeartbeats 4000000 in
theorem rCheck_any (t:Tre) (HA NA:Option Addr) (hn hc nn nc:Nat) (sl:List Sl) (w:World) (h:TAt w t HA NA hn nn sl) (h400:nn≤400):
 Calls Try.prog 11 #[.agg #[.int .i64 t.states,.slice HA hn hc,.slice NA nn nc]] w fun e w'=>e=.returned (.int .i64 (lowErr t))∧Below w.heap.size w w':=by
 have HT:=hiD h
 clear h
 go_enter Try.func11,Try.ntmps11
 go_upto_region 1 with fail
 obtain ⟨wa,hW9,RT,hgr9⟩:=laid1 w [.int .i64 t.states,.slice HA hn hc,.slice NA nn nc] 25
 rewrite [hW9]
 clear hW9
 have B_w:=hiD hgr9
 clear hgr9
 obtain ⟨k0,k1,k2,kl⟩:=RT.out.cells3
 go_wp2_with fail
 have HC:=rLower_from t HA NA hn hc nn nc sl wa (HT.out.up B_w.out) h400
 obtain ⟨k,hk⟩:∃ k,k=lowErr t:=⟨_,rfl⟩
 rw [← hk] at HC
 have HK:=hiU hk
 clear hk
 unfold CPostF at HC
 refine HC.mono ?_
 clear HC
 rintro e w1 ⟨GA,OA,gn,gc,on,oc,rfl,-,-,hb⟩
 have B_w:=hiD (below_on2 B_w.out hb)
 have B_wa:=hiD hb
 clear k0 k1 k2 kl
 clear hb
 go_upto_region 2 with fail
 have hgr9:Below w1.heap.size w1 (World.alloc w1 (.cells #[.int .i64 (lowR t).inputs,.slice GA gn gc,.slice OA on oc] 37)):=by go_grown
 have B_w:=hiD (below_on2 B_w.out hgr9)
 have B_w1:=hiD hgr9
 clear hgr9
 revert B_w B_wa B_w1
 generalize (World.alloc w1 (.cells #[.int .i64 (lowR t).inputs,.slice GA gn gc,.slice OA on oc] 37))=w2
 intro B_wa B_w B_w1
 go_wp2_with fail
 go_ret
 exact ⟨by rw [← HK.out ()];rfl,B_w.out⟩
def CircRet (c:Circ) (w:World) (e:Ending) (w':World):Prop:=
 ∃ (GA OA:Option Addr) (gn gc on oc:Nat),e=.returned (.agg #[.int .i64 c.inputs,.slice GA gn gc,.slice OA on oc])∧CAt w' c GA OA gn on∧Below w.heap.size w w'
set_option maxRecDepth 100000 in
set_option maxHeartbeats 4000000 in
theorem rCircuit_any (t:Tre) (HA NA:Option Addr) (hn hc nn nc:Nat) (sl:List Sl) (w:World) (h:TAt w t HA NA hn nn sl) (h400:nn≤400):
 Calls Try.prog 14 #[.agg #[.int .i64 t.states,.slice HA hn hc,.slice NA nn nc]] w (CircRet (circT t) w):=by
 have HT:=hiD h
 clear h
 go_enter Try.func14,Try.ntmps14
 go_upto_region 1 with fail
 obtain ⟨wa,hW9,RT,RZ,hgr9⟩:=laid2 w [.int .i64 t.states,.slice HA hn hc,.slice NA nn nc] 25 [.int .i64 0,.slice none 0 0,.slice none 0 0] 37
 rewrite [hW9]
 clear hW9
 have B_w:=hiD hgr9
 clear hgr9
 have hsa:Hid (w.heap.size+1 < wa.heap.size):=RZ.out.lt
 obtain ⟨k0,k1,k2,kl⟩:=RT.out.cells3
 go_wp2_with fail
 have HC:=rLower_from t HA NA hn hc nn nc sl wa (HT.out.up B_w.out) h400
 unfold CPostF at HC
 refine HC.mono ?_
 clear HC
 rintro e w1 ⟨GA,OA,gn,gc,on,oc,rfl,hca,⟨hf1,hf2⟩,hb⟩
 have HL:=hiD hca
 have HF1:=hiD hf1
 have HF2:=hiD hf2
 clear hca hf1 hf2
 have B_w:=hiD (below_on2 B_w.out hb)
 have B_wa:=hiD hb
 clear k0 k1 k2 kl
 clear hb
 go_upto_region 2 with fail
 obtain ⟨w2,hW9,RL,hgr9⟩:=laid1 w1 [.int .i64 (lowR t).inputs,.slice GA gn gc,.slice OA on oc] 37
 rewrite [hW9]
 clear hW9
 have B_w:=hiD (below_on2 B_w.out hgr9)
 have B_wa:=hiD (below_on2 B_wa.out hgr9)
 have B_w1:=hiD hgr9
 clear hgr9
 obtain ⟨k0,k1,k2,kl⟩:=RL.out.cells3
 go_wp2_with fail
 have HC:=rAll_from (lowR t) GA OA gn gc on oc wa.heap.size w2 (HL.out.up B_w1.out) B_wa.out.size HF1.out HF2.out
 unfold CiPost at HC
 refine HC.mono ?_
 clear HC
 rintro e w3 ⟨DA,EA,dn,dc,en,ec,rfl,hca,hf1,hf2,hb⟩
 have HD:=hiD hca
 have HG1:Hid (CFrom DA dn (w.heap.size+2)):=CFrom.mono hf1 hsa.out
 have HG2:Hid (CFrom EA en (w.heap.size+2)):=CFrom.mono hf2 hsa.out
 clear hca hf1 hf2
 have B_w:=hiD (below_on2 B_w.out hb)
 have B_wa:=hiD (below_on2 B_wa.out hb)
 clear k0 k1 k2 kl
 clear hb
 have RZ3:=hiD (rowCells RZ.out B_wa.out)
 obtain ⟨z0,z1,z2,zl⟩:=RZ3.out.cells3
 obtain ⟨zf0,zf1,zf2⟩:=RZ3.out.froz3
 go_wp2
 have Z9:=RZ3.out.set3 (.int .i64 (allC (lowR t)).inputs) (.slice DA dn dc) (.slice EA en ec)
 have B9:=bSet3 B_w.out (w.heap.size+1) (by show _≤(w.heap.size+1);omega) (.int .i64 (allC (lowR t)).inputs) (.slice DA dn dc) (.slice EA en ec)
 obtain ⟨d0,d1,d2,-⟩:=Z9.cells3
 clear Z9
 refine bodyPost_ret (v:=.agg #[.int .i64 (allC (lowR t)).inputs,.slice DA dn dc,.slice EA en ec]) (by simp [results,Try.results14,go_sem,d0,d1,d2]) rfl ?_
 exact ⟨DA,EA,dn,dc,en,ec,rfl,(CAt.farSet (CAt.farSet (CAt.farSet HD.out (p:=⟨(w.heap.size+1),0,none⟩) (HG1.out.ne (by show (w.heap.size+1) < w.heap.size+2;omega)) (HG2.out.ne (by show (w.heap.size+1) < w.heap.size+2;omega)) (.int .i64 (allC (lowR t)).inputs)) (p:=⟨(w.heap.size+1),1,none⟩) (HG1.out.ne (by show (w.heap.size+1) < w.heap.size+2;omega)) (HG2.out.ne (by show (w.heap.size+1) < w.heap.size+2;omega)) (.slice DA dn dc)) (p:=⟨(w.heap.size+1),2,none⟩) (HG1.out.ne (by show (w.heap.size+1) < w.heap.size+2;omega)) (HG2.out.ne (by show (w.heap.size+1) < w.heap.size+2;omega)) (.slice EA en ec)),B9⟩
end Go.Proofs.Ytiemhbogbaamlaa
