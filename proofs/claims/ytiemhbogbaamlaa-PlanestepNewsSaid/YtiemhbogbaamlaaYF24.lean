/-
 A part.
-/
import Derived.Test.YtiemhbogbaamlaaYF1
import Derived.Test.YtiemhbogbaamlaaYF22
import Derived.Test.YtiemhbogbaamlaaYF23
set_option linter.unusedSimpArgs false
set_option linter.unusedVariables false
namespace Go.Proofs.Ytiemhbogbaamlaa
open Go.RowKit
theorem bump_at (l:List Int) (i j:Nat):(bump l i).getD j 0=if i=j∧j < l.length then l.getD i 0+1 else l.getD j 0:=by
 unfold bump
 rw [List.getD_eq_getElem?_getD,List.getElem?_set]
 by_cases h:i=j
 ·subst h
  by_cases h2:i < l.length
  ·simp [h2]
  ·simp [h2]
 ·simp [h]
theorem count_at (N:Nat) (cs:List Int) (j:Nat) (hj:j < N) (k:Nat) (hk:k≤cs.length):0≤(countTo N cs k).getD j 0∧(0 < (countTo N cs k).getD j 0 ↔ ∃ i,i < k∧(cs.getD i 0).toNat=j):=by
 induction k with
 | zero=>
  rw [countTo_zero]
  have:(zeros N).getD j 0=0:=by unfold zeros;rw [List.getD_eq_getElem?_getD,List.getElem?_replicate];split <;> rfl
  rw [this]
  exact ⟨Int.le_refl _,⟨fun h=>absurd h (by decide),fun ⟨i,h,_⟩=>absurd h (Nat.not_lt_zero _)⟩⟩
 | succ k ih=>
  obtain ⟨h0,h1⟩:=ih (by omega)
  rw [countTo_snoc _ _ _ (by omega),bump_at,countTo_length]
  by_cases e:(cs.getD k 0).toNat=j
  ·rw [if_pos ⟨e,hj⟩,e]
   exact ⟨by omega,⟨fun _=>⟨k,by omega,e⟩,fun _=>by omega⟩⟩
  ·rw [if_neg (fun h=>e h.1)]
   refine ⟨h0,h1.trans ⟨fun ⟨i,hi,he⟩=>⟨i,by omega,he⟩,fun ⟨i,hi,he⟩=>?_⟩⟩
   rcases Nat.lt_or_ge i k with h2 | h2
   ·exact ⟨i,h2,he⟩
   ·obtain rfl:i=k:=by omega
    exact absurd he e
theorem countF_at {p:Pln} (h:rightPl p=true) {j:Nat} (hj:j < (countF p).length):0 < (countF p).getD j 0 ↔ ∃ i,i < (cellsP p).length∧(cellsP p).getD i 0=(j:Int):=by
 unfold countF at hj ⊢
 rw [if_pos h] at hj ⊢
 rw [countTo_length] at hj
 rw [(count_at _ _ _ hj _ (Nat.le_refl _)).2]
 constructor
 ·rintro ⟨i,hi,he⟩
  have:=(cellsP_bd p i).1
  exact ⟨i,hi,by omega⟩
 ·rintro ⟨i,hi,he⟩
  exact ⟨i,hi,by omega⟩
theorem count_bad {t:Tre} {p:Pln} (h:rightPl p=true) {j:Nat} (hj:j < (countF p).length) (h1:t.states≤(j:Int)) (h2:0 < (countF p).getD j 0):(cellsP p).all (ltStates t)=false:=by
 obtain ⟨i,hi,he⟩:=(countF_at h hj).1 h2
 rw [List.all_eq_false]
 refine ⟨(cellsP p)[i],List.getElem_mem hi,?_⟩
 have:(cellsP p).getD i 0=(cellsP p)[i]:=by rw [List.getD_eq_getElem?_getD,List.getElem?_eq_getElem hi];rfl
 unfold ltStates
 rw [decide_eq_true_iff,← this,he]
 omega
theorem count_good {t:Tre} {p:Pln} (h:rightPl p=true) (hall:∀ j,j < (countF p).length→t.states≤(j:Int)→¬ 0 < (countF p).getD j 0):(cellsP p).all (ltStates t)=true:=by
 rw [List.all_eq_true]
 intro s hs
 obtain ⟨i,hi,rfl⟩:=List.getElem_of_mem hs
 have e:(cellsP p).getD i 0=(cellsP p)[i]:=by rw [List.getD_eq_getElem?_getD,List.getElem?_eq_getElem hi];rfl
 have hb:=cellsP_bd p i
 unfold ltStates
 rw [decide_eq_true_iff,← e]
 apply Classical.byContradiction
 intro hn
 have hl:((cellsP p).getD i 0).toNat < (countF p).length:=by
  unfold countF
  rw [if_pos h,countTo_length]
  have h5:((2 ^ p.words.length:Nat):Int)=(2:Int) ^ p.words.length:=by simp
  omega
 exact hall _ hl (by omega) ((countF_at h hl).2 ⟨i,hi,by omega⟩)
set_option maxRecDepth 100000 in
set_option maxHeartbeats 2000000 in
theorem check_nil (p:Pln) (A:Option Addr) (n c:Nat) (w:World):Calls Try.prog 38 #[.pointer none,.agg #[.int .i64 p.w,.int .i64 p.h,.int .i64 p.edge,.slice A n c]] w fun e w'=>e=.returned (.int .i64 1)∧Below w.heap.size w w':=by
 go_enter Try.func38,Try.ntmps38
 go_wp2
 go_ret
 exact ⟨rfl,by go_grown⟩
set_option maxRecDepth 100000 in
set_option maxHeartbeats 8000000 in
theorem check_any (b:Nat) (t:Tre) (GA OA PA:Option Addr) (gn gc on oc pn pc:Nat) (p:Pln) (A:Option Addr) (n c:Nat) (sl:List Sl) (w:World) (he:EngAt w b t GA OA PA gn gc on oc pn pc) (hp:PAt w p A n sl):
 Calls Try.prog 38 #[.pointer (some ⟨b,0,none⟩),.agg #[.int .i64 p.w,.int .i64 p.h,.int .i64 p.edge,.slice A n c]] w fun e w'=>e=.returned (.int .i64 (checkPl t p))∧Below w.heap.size w w':=by
 have HE:=hiD he
 have HP:=hiD hp
 have RE:Hid (Row w b 75 [.int .i64 (circT t).inputs,.slice GA gn gc,.slice OA on oc,.slice PA pn pc,.int .i64 t.states]):=he.row
 have HWL:Hid (p.words.length=n):=hp.wl
 have hsb:=states_bd he.rt
 have HNM:Hid (n≤maxLen):=hp.n63
 obtain ⟨nb,hnb⟩:∃ nb,bitsF t.states=nb:=⟨_,rfl⟩
 have HNB:=hiU hnb
 clear he hp hnb
 go_enter Try.func38,Try.ntmps38
 go_upto_region 1 with fail
 obtain ⟨wa,hW9,RP,hgr9⟩:=laid1 w [.int .i64 p.w,.int .i64 p.h,.int .i64 p.edge,.slice A n c] 42
 rewrite [hW9]
 clear hW9
 have B_w:=hiD hgr9
 clear hgr9
 have hu:undef=Value.tuple #[]:=rfl
 go_wp2_with fail
 obtain ⟨q,hq⟩:∃ q,rightPl p=q:=⟨_,rfl⟩
 have HQ:=hiU hq
 have HRC:=plRight_any p A n c sl
 rw [hq] at HRC
 have HRC:=hiD HRC
 clear hq
 cases q
 ·have HCK:Hid (∀ _:Unit,checkPl t p=2):=fun _=>by unfold checkPl;rw [if_neg (fun h=>by rw [HQ.out ()] at h;exact absurd h.1 (by decide))]
  refine wp_region_L (fun w'=>Row w' (w.heap.size) 42 [.int .i64 p.w,.int .i64 p.h,.int .i64 p.edge,.slice A n c]∧Row w' (b) 75 [.int .i64 (circT t).inputs,.slice GA gn gc,.slice OA on oc,.slice PA pn pc,.int .i64 t.states]) [] (by kernel_rfl) (by exact ⟨Row.drew RP.out,Row.drew (rowCells RE.out B_w.out)⟩) (fun hHeld=>?_)
  have B_w:Hid (Below w.heap.size w (World.drew wa)):=B_w.out.drew
  have B_wa:Hid (Below wa.heap.size wa (World.drew wa)):=(Below.refl _ _).drew
  revert hHeld B_w B_wa
  generalize World.drew wa=waq
  intro hHeld B_w B_wa
  refine lTakeW 0 ?va1 [] rfl (by rfl) ?ya1 hHeld ?ra1
  case ya1=>
   intro w' hSw
   obtain ⟨s0,s1⟩:=hSw
   have hT0:=hiD s0
   obtain ⟨z0_0,z0_1,z0_2,z0_3,z0_l⟩:=hT0.out.cells4
   have hT1:=hiD s1
   obtain ⟨z1_0,z1_1,z1_2,z1_3,z1_4,z1_l⟩:=hT1.out.cells5
   clear s0 s1
   go_simp
   try (with_reducible rfl)
  go_simp
  refine restL_one (i:=1) (by kernel_rfl) rfl (fun K hK=>?_)
  go_simp
  go_at_call 45
  have HC:=HRC.out waq (HP.out.up B_w.out)
  refine HC.mono ?_
  clear HC
  rintro e y1 ⟨rfl,hb⟩
  clear hHeld
  have B_w:=hiD (below_on2 B_w.out hb)
  have B_wa:=hiD (below_on2 B_wa.out hb)
  clear hb
  refine hK.out _ _ (fun _=>?keep) (fun hHeld=>?_)
  case keep=>exact ⟨(rowCells RP.out B_wa.out),(rowCells RE.out B_w.out)⟩
  have hHeld:=hHeld rfl
  clear hK K
  try go_simp
  refine lPureW 2 ?va2 rfl (by rfl) ?ya2 ?ra2
  case ya2=>intro w' hSw;clear hSw;go_simp;try (with_reducible rfl)
  go_simp
  refine lPureW 3 ?va3 rfl (by rfl) ?ya3 ?ra3
  case ya3=>intro w' hSw;clear hSw;go_simp;try (with_reducible rfl)
  go_simp
  refine lPureU 4 rfl (by go_simp) ?_
  go_simp
  refine lPureU 7 rfl (by go_simp) ?_
  go_simp
  refine lPureU 8 rfl (by go_simp) ?_
  go_simp
  refine lPureU 9 rfl (by go_simp) ?_
  go_simp
  refine lTakeU 5 [] rfl (by go_simp) hHeld ?_
  go_simp
  refine lTakeU 6 [] rfl (by go_simp) hHeld ?_
  go_simp
  refine lTakeU 10 [] rfl (by go_simp) hHeld ?_
  go_simp
  refine lTakeU 11 [] rfl (by go_simp) hHeld ?_
  go_simp
  refine lPureU 12 rfl (by go_simp) ?_
  go_simp
  refine lPureW 13 ?va13 rfl (by rfl) ?ya13 ?ra13
  case ya13=>intro w' hSw;clear hSw;go_simp;try (with_reducible rfl)
  go_simp
  refine restL_done (by kernel_rfl) ?_ _
  go_wp2_with fail
  go_ret
  exact ⟨ret_i64 (HCK.out ()).symm,B_w.out⟩
 by_cases hnn:n=nb
 ·subst hnn
  refine wp_region_L (fun w'=>Row w' (w.heap.size) 42 [.int .i64 p.w,.int .i64 p.h,.int .i64 p.edge,.slice A n c]∧Row w' (b) 75 [.int .i64 (circT t).inputs,.slice GA gn gc,.slice OA on oc,.slice PA pn pc,.int .i64 t.states]) [] (by kernel_rfl) (by exact ⟨Row.drew RP.out,Row.drew (rowCells RE.out B_w.out)⟩) (fun hHeld=>?_)
  have B_w:Hid (Below w.heap.size w (World.drew wa)):=B_w.out.drew
  have B_wa:Hid (Below wa.heap.size wa (World.drew wa)):=(Below.refl _ _).drew
  revert hHeld B_w B_wa
  generalize World.drew wa=waq
  intro hHeld B_w B_wa
  refine lTakeW 0 ?vb1 [] rfl (by rfl) ?yb1 hHeld ?rb1
  case yb1=>
   intro w' hSw
   obtain ⟨s0,s1⟩:=hSw
   have hT0:=hiD s0
   obtain ⟨z0_0,z0_1,z0_2,z0_3,z0_l⟩:=hT0.out.cells4
   have hT1:=hiD s1
   obtain ⟨z1_0,z1_1,z1_2,z1_3,z1_4,z1_l⟩:=hT1.out.cells5
   clear s0 s1
   go_simp
   try (with_reducible rfl)
  go_simp
  refine restL_one (i:=1) (by kernel_rfl) rfl (fun K hK=>?_)
  go_simp
  go_at_call 45
  have HC:=HRC.out waq (HP.out.up B_w.out)
  refine HC.mono ?_
  clear HC
  rintro e y1 ⟨rfl,hb⟩
  clear hHeld
  have B_w:=hiD (below_on2 B_w.out hb)
  have B_wa:=hiD (below_on2 B_wa.out hb)
  clear hb
  refine hK.out _ _ (fun _=>?keep) (fun hHeld=>?_)
  case keep=>exact ⟨(rowCells RP.out B_wa.out),(rowCells RE.out B_w.out)⟩
  have hHeld:=hHeld rfl
  clear hK K
  try go_simp
  refine lPureW 2 ?vb2 rfl (by rfl) ?yb2 ?rb2
  case yb2=>intro w' hSw;clear hSw;go_simp;try (with_reducible rfl)
  go_simp
  refine lPureW 3 ?vb3 rfl (by rfl) ?yb3 ?rb3
  case yb3=>intro w' hSw;clear hSw;go_simp;try (with_reducible rfl)
  go_simp
  refine lPureW 4 ?vb4 rfl (by first | rfl | (go_simp;done)) ?yb4 ?rb4
  case yb4=>intro w' hSw;clear hSw;go_simp;try (with_reducible rfl)
  go_simp
  refine lPureW 7 ?vb5 rfl (by first | rfl | (go_simp;done)) ?yb5 ?rb5
  case yb5=>intro w' hSw;clear hSw;go_simp;try (with_reducible rfl)
  go_simp
  refine lPureW 8 ?vb6 rfl (by first | rfl | (go_simp;done)) ?yb6 ?rb6
  case yb6=>intro w' hSw;clear hSw;go_simp;try (with_reducible rfl)
  go_simp
  refine lPureW 9 ?vb7 rfl (by first | rfl | (go_simp;done)) ?yb7 ?rb7
  case yb7=>intro w' hSw;clear hSw;go_simp;try (with_reducible rfl)
  go_simp
  refine lTakeW 5 ?vb8 [] rfl (by first | rfl | (go_simp;done)) ?yb8 hHeld ?rb8
  case yb8=>
   intro w' hSw
   obtain ⟨s0,s1⟩:=hSw
   have hT0:=hiD s0
   obtain ⟨z0_0,z0_1,z0_2,z0_3,z0_l⟩:=hT0.out.cells4
   have hT1:=hiD s1
   obtain ⟨z1_0,z1_1,z1_2,z1_3,z1_4,z1_l⟩:=hT1.out.cells5
   clear s0 s1
   go_simp
   try (with_reducible rfl)
  go_simp
  refine lTakeW 6 ?vb9 [] rfl (by first | rfl | (go_simp;done)) ?yb9 hHeld ?rb9
  case yb9=>
   intro w' hSw
   obtain ⟨s0,s1⟩:=hSw
   have hT0:=hiD s0
   obtain ⟨z0_0,z0_1,z0_2,z0_3,z0_l⟩:=hT0.out.cells4
   have hT1:=hiD s1
   obtain ⟨z1_0,z1_1,z1_2,z1_3,z1_4,z1_l⟩:=hT1.out.cells5
   clear s0 s1
   go_simp
   try (with_reducible rfl)
  go_simp
  refine lTakeW 10 ?vb10 [] rfl (by first | rfl | (go_simp;done)) ?yb10 hHeld ?rb10
  case yb10=>
   intro w' hSw
   obtain ⟨s0,s1⟩:=hSw
   have hT0:=hiD s0
   obtain ⟨z0_0,z0_1,z0_2,z0_3,z0_l⟩:=hT0.out.cells4
   have hT1:=hiD s1
   obtain ⟨z1_0,z1_1,z1_2,z1_3,z1_4,z1_l⟩:=hT1.out.cells5
   clear s0 s1
   go_simp
   try (with_reducible rfl)
  go_simp
  refine restL_one (i:=11) (by kernel_rfl) rfl (fun K hK=>?_)
  go_simp
  go_at_call 50
  have HC:=lBits_any t.states y1
  rw [HNB.out ()] at HC
  refine HC.mono ?_
  clear HC
  rintro e y2 ⟨rfl,hb0⟩
  have hb:Below y1.heap.size y1 y2:=hb0 ▸ Below.refl _ _
  clear hHeld hb0
  have B_w:=hiD (below_on2 B_w.out hb)
  have B_wa:=hiD (below_on2 B_wa.out hb)
  clear hb
  refine hK.out _ _ (fun _=>?keep) (fun hHeld=>?_)
  case keep=>exact ⟨(rowCells RP.out B_wa.out),(rowCells RE.out B_w.out)⟩
  have hHeld:=hHeld rfl
  clear hK K
  try go_simp
  refine lPureW 12 ?vb11 rfl (by first | rfl | (go_simp;done)) ?yb11 ?rb11
  case yb11=>intro w' hSw;clear hSw;go_simp;try (with_reducible rfl)
  go_simp
  refine lPureW 13 ?vb12 rfl (by rfl) ?yb12 ?rb12
  case yb12=>intro w' hSw;clear hSw;go_simp;try (with_reducible rfl)
  go_simp
  refine restL_done (by kernel_rfl) ?_ _
  obtain ⟨k0,k1,k2,k3,kl⟩:=(rowCells RP.out B_wa.out).cells4
  go_wp2_with fail
  have HC:=plCount_any p A n c sl y2 (HP.out.up B_w.out)
  unfold IntsPost at HC
  refine HC.mono ?_
  clear HC
  rintro e u0 ⟨CA,cn,cc,rfl,hcd,hcm,hb⟩
  have HCD:=hiD hcd
  have HCL:Hid (∀ _:Unit,(countF p).length=cn):=fun _=>by have:=HCD.out.1;simp at this;omega
  unfold maxLen at hcm
  clear hcd
  have B_w:=hiD (below_on2 B_w.out hb)
  clear k0 k1 k2 k3 kl
  clear hb
  have REu:=hiD (rowCells RE.out B_w.out)
  go_wp2_with fail
  go_loopg [5,6,26] cn (fun gg _ _ s26 wr=>∃ k:Nat,k≤cn∧cn - k≤gg∧s26=.int .i64 k∧Aside (Below u0.heap.size u0 wr)∧Aside (∀ j:Nat,j < k→t.states≤(j:Int)→¬ 0 < (countF p).getD j 0))
  case atStart=>exact ⟨0,Nat.zero_le _,by omega,rfl,Below.refl _ _,fun j hj=>absurd hj (Nat.not_lt_zero _)⟩
  case round=>
   obtain ⟨k,hk,hgg,rfl,BX,HAL⟩:=hrel
   have BWr:=hiD (below_on2 B_w.out BX.out)
   by_cases hlt:k < cn
   ·have hlz:(k:Int) < (cn:Int):=by omega
    obtain ⟨ad,rfl,hab,c0⟩:=(HCD.out.up BX.out).int hlt
    have HBD:Hid (t.states≤(k:Int)→0 < (countF p).getD k 0→checkPl t p=10):=fun h1 h2=>by
     unfold checkPl
     rw [if_pos ⟨HQ.out (),by rw [HWL.out,HNB.out ()]⟩,count_bad (HQ.out ()) (by rw [HCL.out ()];exact hlt) h1 h2];rfl
    have HNX:Hid (¬ (t.states≤(k:Int)∧0 < (countF p).getD k 0)→∀ j:Nat,j < k+1→t.states≤(j:Int)→¬ 0 < (countF p).getD j 0):=fun h j hj h1 h2=>by
     rcases Nat.lt_or_ge j k with h3 | h3
     ·exact HAL.out j h3 h1 h2
     ·obtain rfl:j=k:=by omega
      exact h ⟨h1,h2⟩
    generalize (countF p).getD k 0=cv at c0 HBD HNX
    have REr:=hiD (rowCells REu.out BX.out)
    obtain ⟨e0,e1,e2,e3,e4,el⟩:=REr.out.cells5
    by_cases h1:t.states≤(k:Int)
    ·have d1:decide (t.states≤(k:Int))=true:=decide_eq_true h1
     by_cases h2:0 < cv
     ·have d2:decide (0 < cv)=true:=decide_eq_true h2
      have HCK:Hid (∀ _:Unit,checkPl t p=10):=fun _=>HBD.out h1 h2
      go_wp2_with fail
      go_ret
      exact ⟨ret_i64 (HCK.out ()).symm,BWr.out⟩
     ·have d2:decide (0 < cv)=false:=decide_eq_false h2
      go_wp2_with fail
      go_roundg (cn - (k+1))
      case measure=>omega
      case rel=>exact ⟨k+1,by omega,by omega,by go_num,BX.out,HNX.out (fun h=>absurd h.2 (by omega))⟩
    ·have d1:decide (t.states≤(k:Int))=false:=decide_eq_false h1
     go_wp2_with fail
     go_roundg (cn - (k+1))
     case measure=>omega
     case rel=>exact ⟨k+1,by omega,by omega,by go_num,BX.out,HNX.out (fun h=>absurd h.1 (by omega))⟩
   ·have hlz:¬ (k:Int) < (cn:Int):=by omega
    obtain rfl:cn=k:=by omega
    have HCK:Hid (∀ _:Unit,checkPl t p=0):=fun _=>by
     unfold checkPl
     rw [if_pos ⟨HQ.out (),by rw [HWL.out,HNB.out ()]⟩,if_pos (count_good (HQ.out ()) (fun j hj=>HAL.out j (by rw [HCL.out ()] at hj;exact hj)))]
    go_wp2_with fail
    go_ret
    exact ⟨ret_i64 (HCK.out ()).symm,BWr.out⟩
 ·have HCK:Hid (∀ _:Unit,checkPl t p=2):=fun _=>by unfold checkPl;rw [if_neg (fun h=>hnn (by rw [← HWL.out,h.2,HNB.out ()]))]
  have n0:decide ((n:Int)=(nb:Int))=false:=decide_eq_false (by omega)
  have n1:((n:Int) == (nb:Int))=false:=by simp;omega
  have n2:decide (n=nb)=false:=decide_eq_false hnn
  have n3:(n == nb)=false:=by simpa using hnn
  refine wp_region_L (fun w'=>Row w' (w.heap.size) 42 [.int .i64 p.w,.int .i64 p.h,.int .i64 p.edge,.slice A n c]∧Row w' (b) 75 [.int .i64 (circT t).inputs,.slice GA gn gc,.slice OA on oc,.slice PA pn pc,.int .i64 t.states]) [] (by kernel_rfl) (by exact ⟨Row.drew RP.out,Row.drew (rowCells RE.out B_w.out)⟩) (fun hHeld=>?_)
  have B_w:Hid (Below w.heap.size w (World.drew wa)):=B_w.out.drew
  have B_wa:Hid (Below wa.heap.size wa (World.drew wa)):=(Below.refl _ _).drew
  revert hHeld B_w B_wa
  generalize World.drew wa=waq
  intro hHeld B_w B_wa
  refine lTakeW 0 ?vc1 [] rfl (by rfl) ?yc1 hHeld ?rc1
  case yc1=>
   intro w' hSw
   obtain ⟨s0,s1⟩:=hSw
   have hT0:=hiD s0
   obtain ⟨z0_0,z0_1,z0_2,z0_3,z0_l⟩:=hT0.out.cells4
   have hT1:=hiD s1
   obtain ⟨z1_0,z1_1,z1_2,z1_3,z1_4,z1_l⟩:=hT1.out.cells5
   clear s0 s1
   go_simp
   try (with_reducible rfl)
  go_simp
  refine restL_one (i:=1) (by kernel_rfl) rfl (fun K hK=>?_)
  go_simp
  go_at_call 45
  have HC:=HRC.out waq (HP.out.up B_w.out)
  refine HC.mono ?_
  clear HC
  rintro e y1 ⟨rfl,hb⟩
  clear hHeld
  have B_w:=hiD (below_on2 B_w.out hb)
  have B_wa:=hiD (below_on2 B_wa.out hb)
  clear hb
  refine hK.out _ _ (fun _=>?keep) (fun hHeld=>?_)
  case keep=>exact ⟨(rowCells RP.out B_wa.out),(rowCells RE.out B_w.out)⟩
  have hHeld:=hHeld rfl
  clear hK K
  try go_simp
  refine lPureW 2 ?vc2 rfl (by rfl) ?yc2 ?rc2
  case yc2=>intro w' hSw;clear hSw;go_simp;try (with_reducible rfl)
  go_simp
  refine lPureW 3 ?vc3 rfl (by rfl) ?yc3 ?rc3
  case yc3=>intro w' hSw;clear hSw;go_simp;try (with_reducible rfl)
  go_simp
  refine lPureW 4 ?vc4 rfl (by first | rfl | (go_simp;done)) ?yc4 ?rc4
  case yc4=>intro w' hSw;clear hSw;go_simp;try (with_reducible rfl)
  go_simp
  refine lPureW 7 ?vc5 rfl (by first | rfl | (go_simp;done)) ?yc5 ?rc5
  case yc5=>intro w' hSw;clear hSw;go_simp;try (with_reducible rfl)
  go_simp
  refine lPureW 8 ?vc6 rfl (by first | rfl | (go_simp;done)) ?yc6 ?rc6
  case yc6=>intro w' hSw;clear hSw;go_simp;try (with_reducible rfl)
  go_simp
  refine lPureW 9 ?vc7 rfl (by first | rfl | (go_simp;done)) ?yc7 ?rc7
  case yc7=>intro w' hSw;clear hSw;go_simp;try (with_reducible rfl)
  go_simp
  refine lTakeW 5 ?vc8 [] rfl (by first | rfl | (go_simp;done)) ?yc8 hHeld ?rc8
  case yc8=>
   intro w' hSw
   obtain ⟨s0,s1⟩:=hSw
   have hT0:=hiD s0
   obtain ⟨z0_0,z0_1,z0_2,z0_3,z0_l⟩:=hT0.out.cells4
   have hT1:=hiD s1
   obtain ⟨z1_0,z1_1,z1_2,z1_3,z1_4,z1_l⟩:=hT1.out.cells5
   clear s0 s1
   go_simp
   try (with_reducible rfl)
  go_simp
  refine lTakeW 6 ?vc9 [] rfl (by first | rfl | (go_simp;done)) ?yc9 hHeld ?rc9
  case yc9=>
   intro w' hSw
   obtain ⟨s0,s1⟩:=hSw
   have hT0:=hiD s0
   obtain ⟨z0_0,z0_1,z0_2,z0_3,z0_l⟩:=hT0.out.cells4
   have hT1:=hiD s1
   obtain ⟨z1_0,z1_1,z1_2,z1_3,z1_4,z1_l⟩:=hT1.out.cells5
   clear s0 s1
   go_simp
   try (with_reducible rfl)
  go_simp
  refine lTakeW 10 ?vc10 [] rfl (by first | rfl | (go_simp;done)) ?yc10 hHeld ?rc10
  case yc10=>
   intro w' hSw
   obtain ⟨s0,s1⟩:=hSw
   have hT0:=hiD s0
   obtain ⟨z0_0,z0_1,z0_2,z0_3,z0_l⟩:=hT0.out.cells4
   have hT1:=hiD s1
   obtain ⟨z1_0,z1_1,z1_2,z1_3,z1_4,z1_l⟩:=hT1.out.cells5
   clear s0 s1
   go_simp
   try (with_reducible rfl)
  go_simp
  refine restL_one (i:=11) (by kernel_rfl) rfl (fun K hK=>?_)
  go_simp
  go_at_call 50
  have HC:=lBits_any t.states y1
  rw [HNB.out ()] at HC
  refine HC.mono ?_
  clear HC
  rintro e y2 ⟨rfl,hb0⟩
  have hb:Below y1.heap.size y1 y2:=hb0 ▸ Below.refl _ _
  clear hHeld hb0
  have B_w:=hiD (below_on2 B_w.out hb)
  have B_wa:=hiD (below_on2 B_wa.out hb)
  clear hb
  refine hK.out _ _ (fun _=>?keep) (fun hHeld=>?_)
  case keep=>exact ⟨(rowCells RP.out B_wa.out),(rowCells RE.out B_w.out)⟩
  have hHeld:=hHeld rfl
  clear hK K
  try go_simp
  refine lPureW 12 ?vc11 rfl (by first | rfl | (go_simp;done)) ?yc11 ?rc11
  case yc11=>intro w' hSw;clear hSw;go_simp;try (with_reducible rfl)
  go_simp
  refine lPureW 13 ?vc12 rfl (by rfl) ?yc12 ?rc12
  case yc12=>intro w' hSw;clear hSw;go_simp;try (with_reducible rfl)
  go_simp
  refine restL_done (by kernel_rfl) ?_ _
  go_wp2_with fail
  go_ret
  exact ⟨ret_i64 (HCK.out ()).symm,B_w.out⟩
end Go.Proofs.Ytiemhbogbaamlaa
/-
 A part.
-/
namespace Go.Proofs.Ytiemhbogbaamlaa
open Go.RowKit
theorem row_infoP:(Try.prog.info? 67).map (fun i=>(i.zero,i.size,i.bytes))=some (some (.slice none 0 0),1,24):=by kernel_rfl
theorem word_infoP:(Try.prog.info? 66).map (fun i=>(i.zero,i.size,i.bytes))=some (some (.int .u64 0),1,8):=by kernel_rfl
def gcell (M g:Nat):Value:=.slice (some ⟨g,0,none⟩) M M
structure POwn (w:World) (base:Nat) (v:Value) (M:Nat) (gs:List Nat) (rows:List (List (BitVec 64))):Prop where
 len:gs.length=rows.length
 own:w.ownsRow base 67 1 v rows.length (gs.map (gcell M))
 row:∀ i,i < rows.length→Row w (gs.getD i 0) 66 (w64s (rows.getD i []))
 wid:∀ i,i < rows.length→(rows.getD i []).length=M
 bas:∀ i,i < rows.length→base≤gs.getD i 0
 inj:∀ i j,i < rows.length→j < rows.length→gs.getD i 0=gs.getD j 0→i=j
section
variable {w w':World} {base M:Nat} {v:Value} {gs:List Nat} {rows:List (List (BitVec 64))}
theorem POwn.nil (w:World) (base M:Nat):POwn w base (.slice none 0 0) M [] []:=
 ⟨rfl,World.ownsRow_nil _ _ _ _,fun i hi=>absurd hi (Nat.not_lt_zero _),fun i hi=>absurd hi (Nat.not_lt_zero _),fun i hi=>absurd hi (Nat.not_lt_zero _),fun i j hi=>absurd hi (Nat.not_lt_zero _)⟩
theorem POwn.drew (h:POwn w base v M gs rows):POwn w.drew base v M gs rows:=⟨h.len,h.own,h.row,h.wid,h.bas,h.inj⟩
theorem POwn.up (h:POwn w base v M gs rows) (hb:Below w.heap.size w w'):POwn w' base v M gs rows:=
 ⟨h.len,own_below h.own hb (Nat.le_refl _),fun i hi=>rowCells (h.row i hi) hb,h.wid,h.bas,h.inj⟩
theorem getD_snoc_ltP {α} (l:List α) (x d:α) (i:Nat) (h:i < l.length):(l ++ [x]).getD i d=l.getD i d:=by
 rw [List.getD_eq_getElem?_getD,List.getD_eq_getElem?_getD,List.getElem?_append_left h]
theorem getD_snoc_eqP {α} (l:List α) (x d:α):(l ++ [x]).getD l.length d=x:=by
 rw [List.getD_eq_getElem?_getD,List.getElem?_append_right (Nat.le_refl _)];simp
theorem POwn.push {w1:World} {v':Value} {r:List (BitVec 64)} (h:POwn w base v M gs rows) (hr:Row w1 w.heap.size 66 (w64s r)) (hrl:r.length=M) (hB:base≤w.heap.size) (hb:Below w.heap.size w w1)
 (hg:w1.grownBy w' v.ownBlock) (ho:w'.ownsRow base 67 1 v' (rows.length+1) (gs.map (gcell M) ++ [gcell M w.heap.size])):
 POwn w' base v' M (gs ++ [w.heap.size]) (rows ++ [r]):=by
 have ho1:=own_below h.own hb (Nat.le_refl _)
 have hgl:=h.len
 refine ⟨by simp [hgl],by rw [List.length_append,List.map_append];exact ho,fun i hi=>?_,fun i hi=>?_,fun i hi=>?_,fun i j hi hj e=>?_⟩
 all_goals rw [List.length_append,List.length_singleton] at hi
 ·by_cases e:i < rows.length
  ·rw [getD_snoc_ltP _ _ _ _ e,getD_snoc_ltP _ _ _ _ (by omega)]
   have h1:=rowCells (h.row i e) hb
   exact h1.grown hg (fun e=>own_ne_row ho1 h1 (by decide) e.symm)
  ·obtain rfl:i=rows.length:=by omega
   rw [getD_snoc_eqP,← hgl,getD_snoc_eqP]
   exact hr.grown hg (fun e=>own_ne_row ho1 hr (by decide) e.symm)
 ·by_cases e:i < rows.length
  ·rw [getD_snoc_ltP _ _ _ _ e];exact h.wid i e
  ·obtain rfl:i=rows.length:=by omega
   rw [getD_snoc_eqP];exact hrl
 ·by_cases e:i < rows.length
  ·rw [getD_snoc_ltP _ _ _ _ (by omega)];exact h.bas i e
  ·obtain rfl:i=rows.length:=by omega
   rw [← hgl,getD_snoc_eqP];exact hB
 ·rw [List.length_append,List.length_singleton] at hj
  by_cases ei:i < rows.length
  ·have li:=(h.row i ei).lt
   by_cases ej:j < rows.length
   ·rw [getD_snoc_ltP _ _ _ _ (by omega),getD_snoc_ltP _ _ _ _ (by omega)] at e
    exact h.inj i j ei ej e
   ·obtain rfl:j=rows.length:=by omega
    rw [getD_snoc_ltP _ _ _ _ (by omega),← hgl,getD_snoc_eqP] at e
    omega
  ·obtain rfl:i=rows.length:=by omega
   by_cases ej:j < rows.length
   ·have lj:=(h.row j ej).lt
    rw [getD_snoc_ltP _ _ _ j (by omega),← hgl,getD_snoc_eqP] at e
    omega
   ·omega
theorem POwn.put (h:POwn w base v M gs rows) (i k:Nat) (x:BitVec 64) (hi:i < rows.length):POwn (w.setCell ⟨gs.getD i 0,k,none⟩ (w64 x)) base v M gs (rows.set i ((rows.getD i []).set k x)):=by
 have hri:=h.row i hi
 refine ⟨by rw [List.length_set];exact h.len,by rw [List.length_set];exact own_set (p:=⟨gs.getD i 0,k,none⟩) h.own hri (by decide) _,fun j hj=>?_,fun j hj=>?_,fun j hj=>?_,fun j l hj hl e=>?_⟩
 all_goals rw [List.length_set] at hj
 ·by_cases e:j=i
  ·subst e
   have:(rows.set j ((rows.getD j []).set k x)).getD j []=(rows.getD j []).set k x:=by
    rw [List.getD_eq_getElem?_getD,List.getElem?_set_self hi];rfl
   rw [this]
   have h2:w64s ((rows.getD j []).set k x)=(w64s (rows.getD j [])).set k (w64 x):=by simp [w64s,List.map_set]
   rw [h2]
   exact hri.set k (w64 x)
  ·have:(rows.set i ((rows.getD i []).set k x)).getD j []=rows.getD j []:=by
    rw [List.getD_eq_getElem?_getD,List.getElem?_set_ne (fun h=>e h.symm),List.getD_eq_getElem?_getD]
   rw [this]
   exact (h.row j hj).far (p:=⟨gs.getD i 0,k,none⟩) (fun h9=>e (h.inj j i hj hi h9)) _
 ·by_cases e:j=i
  ·subst e
   rw [List.getD_eq_getElem?_getD,List.getElem?_set_self hi]
   show ((rows.getD j []).set k x).length=M
   rw [List.length_set];exact h.wid j hi
  ·rw [List.getD_eq_getElem?_getD,List.getElem?_set_ne (fun h=>e h.symm),← List.getD_eq_getElem?_getD]
   exact h.wid j hj
 ·exact h.bas j hj
 ·rw [List.length_set] at hl
  exact h.inj j l hj hl e
theorem POwn.pAt {A:Option Addr} {n c:Nat} {p:Pln} (h:POwn w base (.slice A n c) M gs p.words) (hn:p.words.length=n) (hn3:n≤maxLen) (hM:M≤maxLen):PAt w p A n (gs.map (fun g=>⟨some ⟨g,0,none⟩,M,M⟩)):=by
 have hsl:slCells (gs.map (fun g=>(⟨some ⟨g,0,none⟩,M,M⟩:Sl)))=gs.map (gcell M):=by
  simp [slCells,gcell]
 refine ⟨?_,by rw [List.length_map];exact h.len,fun i hi=>?_,hn3,fun i hi=>?_⟩
 ·rw [hsl]
  have:=h.own
  rw [hn] at this
  exact Rd.of_own this
 ·have e:(gs.map (fun g=>(⟨some ⟨g,0,none⟩,M,M⟩:Sl))).getD i default=⟨some ⟨gs.getD i 0,0,none⟩,M,M⟩:=by
   rw [List.getD_eq_getElem?_getD,List.getElem?_map,List.getD_eq_getElem?_getD,List.getElem?_eq_getElem (by rw [h.len];exact hi)];rfl
  rw [e]
  exact ⟨(h.row i hi).rd (by rw [w64s_length,h.wid i hi,Nat.mul_one]),hM⟩
 ·have e:(gs.map (fun g=>(⟨some ⟨g,0,none⟩,M,M⟩:Sl))).getD i default=⟨some ⟨gs.getD i 0,0,none⟩,M,M⟩:=by
   rw [List.getD_eq_getElem?_getD,List.getElem?_map,List.getD_eq_getElem?_getD,List.getElem?_eq_getElem (by rw [h.len];exact hi)];rfl
  rw [e]
  exact ⟨Nat.le_refl _,hM⟩
end
theorem blankRow (w:World) (M:Nat):Row (w.alloc (.cells (likeRow (Value.int .u64 0) M) 66)) w.heap.size 66 (w64s (List.replicate M 0#64)):=by
 have e:w64s (List.replicate M 0#64)=List.replicate M (Value.int .u64 0):=by simp [w64s,w64]
 rw [e]
 exact Row.new w 66 (List.replicate M (Value.int .u64 0))
theorem POwn.far4 {w:World} {base M b:Nat} {v u0 u1 u2 u3:Value} {T:TypeId} {gs:List Nat} {rows:List (List (BitVec 64))} (v0 v1 v2 v3:Value) (h:POwn w base v M gs rows) (hr:Row w b T [u0,u1,u2,u3]) (hT:67≠T) (hb:b < base):
 POwn ((((w.setCell ⟨b,0,none⟩ v0).setCell ⟨b,1,none⟩ v1).setCell ⟨b,2,none⟩ v2).setCell ⟨b,3,none⟩ v3) base v M gs rows:=
 ⟨h.len,put4own v0 v1 v2 v3 hr h.own hT,fun i hi=>(put4 (w:=w) v0 v1 v2 v3 hr (Nat.le_refl b) (Below.refl _ _)).2.2 _ _ _ (fun e=>by have:=h.bas i hi;omega) (h.row i hi),h.wid,h.bas,h.inj⟩
theorem POwn.far1 {w:World} {base M:Nat} {v:Value} {xs:List Value} {T:TypeId} {gs:List Nat} {rows:List (List (BitVec 64))} {p:Addr} (h:POwn w base v M gs rows) (hr:Row w p.block T xs) (hT:67≠T) (hb:p.block < base) (u:Value):POwn (w.setCell p u) base v M gs rows:=
 ⟨h.len,own_set h.own hr hT u,fun i hi=>(h.row i hi).far (fun e=>by have:=h.bas i hi;omega) u,h.wid,h.bas,h.inj⟩
theorem POwn.base {w:World} {base base' M:Nat} {v:Value} {gs:List Nat} {rows:List (List (BitVec 64))} (h:POwn w base v M gs rows) (hb:base'≤base):POwn w base' v M gs rows:=
 ⟨h.len,own_base h.own hb,h.row,h.wid,fun i hi=>Nat.le_trans hb (h.bas i hi),h.inj⟩
def BlankPost (W Hh e M k:Nat) (w:World) (en:Ending) (w':World):Prop:=
 ∃ A c gs,en=.returned (.agg #[.int .i64 W,.int .i64 Hh,.int .i64 e,.slice A k c])∧POwn w' w.heap.size (.slice A k c) M gs (List.replicate k (List.replicate M 0#64))∧Below w.heap.size w w'
set_option maxRecDepth 100000 in
set_option maxHeartbeats 4000000 in
theorem blank_any (W Hh e k:Nat) (w:World) (hW1:1≤W∧W≤256) (hH1:1≤Hh∧Hh≤256) (hk:k≤3) (he:e≤2):
 Calls Try.prog 43 #[.int .i64 W,.int .i64 Hh,.int .i64 e,.int .i64 k] w (BlankPost W Hh e (Hh * wpr W) k w):=by
 obtain ⟨w1',w2',w3'⟩:=wpr_bd hW1.1
 obtain ⟨nn,hnn⟩:∃ nn,nn=wpr W:=⟨_,rfl⟩
 have HNN:Hid (wpr W=nn):=hnn.symm
 rw [← hnn] at w1' w2' w3' ⊢
 have hn4:nn≤4:=by omega
 obtain ⟨M,hM⟩:∃ M,M=Hh * nn:=⟨_,rfl⟩
 have hMz:(Hh:Int) * (nn:Int)=(M:Int):=by rw [hM,Int.natCast_mul]
 have hMb:M≤1024:=by rw [hM];exact Nat.mul_le_mul hH1.2 hn4
 have hwM:IntKind.i64.wrap (M:Int)=(M:Int):=IntWalk.i64_in _ (by omega)
 rw [← hM]
 have hmk:=fun W=>make_like (P:=Try.prog) Try.underlying67 word_infoP rfl M (M:Int) rfl (by omega) (by omega) W
 clear hnn hM
 go_enter Try.func43,Try.ntmps43
 go_wp2
 have RZ0:Hid (Row ((w.alloc (.cells #[.int .i64 0,.int .i64 0,.int .i64 0,.slice none 0 0] 42)).alloc (.cells #[.int .i64 W,.int .i64 Hh,.int .i64 e,.slice none 0 0] 42)) w.heap.size 42 [.int .i64 0,.int .i64 0,.int .i64 0,.slice none 0 0]):=(Row.new w 42 [.int .i64 0,.int .i64 0,.int .i64 0,.slice none 0 0]).alloc _
 have RX0:Hid (Row ((w.alloc (.cells #[.int .i64 0,.int .i64 0,.int .i64 0,.slice none 0 0] 42)).alloc (.cells #[.int .i64 W,.int .i64 Hh,.int .i64 e,.slice none 0 0] 42)) (w.heap.size+1) 42 [.int .i64 W,.int .i64 Hh,.int .i64 e,.slice none 0 0]):=rowNew1 w _ 42 [.int .i64 W,.int .i64 Hh,.int .i64 e,.slice none 0 0]
 have HB0:Hid (Below w.heap.size w ((w.alloc (.cells #[.int .i64 0,.int .i64 0,.int .i64 0,.slice none 0 0] 42)).alloc (.cells #[.int .i64 W,.int .i64 Hh,.int .i64 e,.slice none 0 0] 42))):=(show Below _ _ _ by go_grown)
 have HS0:Hid (w.heap.size+2≤((w.alloc (.cells #[.int .i64 0,.int .i64 0,.int .i64 0,.slice none 0 0] 42)).alloc (.cells #[.int .i64 W,.int .i64 Hh,.int .i64 e,.slice none 0 0] 42)).heap.size):=(by show _≤_;simp)
 revert RZ0 RX0 HB0 HS0
 generalize ((w.alloc (.cells #[.int .i64 0,.int .i64 0,.int .i64 0,.slice none 0 0] 42)).alloc (.cells #[.int .i64 W,.int .i64 Hh,.int .i64 e,.slice none 0 0] 42))=w2
 intro RZ0 RX0 HB0 HS0
 go_loopg [15] k (fun gg s15 wr=>∃ (kk:Nat) (v:Value) (gs:List Nat),kk≤k∧k - kk≤gg∧s15=.int .i64 kk∧Aside (Below w.heap.size w wr)∧Aside (w.heap.size+2≤wr.heap.size)∧Aside (Row wr w.heap.size 42 [.int .i64 0,.int .i64 0,.int .i64 0,.slice none 0 0])∧Aside (Row wr (w.heap.size+1) 42 [.int .i64 W,.int .i64 Hh,.int .i64 e,v])∧Aside (POwn wr (w.heap.size+2) v M gs (List.replicate kk (List.replicate M 0#64))))
 case atStart=>exact ⟨0,.slice none 0 0,[],Nat.zero_le _,by omega,rfl,HB0.out,HS0.out,RZ0.out,RX0.out,POwn.nil _ _ _⟩
 case round=>
  clear HB0 HS0 RZ0 RX0
  obtain ⟨kk,v,gs,hkk,hgg,rfl,BW,hsz,RZ,RX,OW0⟩:=hrel
  have OW:Hid (POwn wr (w.heap.size+2) v M gs (List.replicate kk (List.replicate M 0#64))):=OW0.out
  have OWk:Hid (wr.ownsRow (w.heap.size+2) 67 1 v kk (gs.map (gcell M))):=(by have:=OW0.out.own;rw [List.length_replicate] at this;exact this)
  obtain ⟨XA,xc,rfl,_⟩:=Rd.own OWk.out
  have OW:POwn wr (w.heap.size+2) (.slice XA kk xc) M gs (List.replicate kk (List.replicate M 0#64)):=OW.out
  have RX:Hid (Row wr (w.heap.size+1) 42 [.int .i64 W,.int .i64 Hh,.int .i64 e,.slice XA kk xc]):=RX.out
  have RZ:Hid (Row wr w.heap.size 42 [.int .i64 0,.int .i64 0,.int .i64 0,.slice none 0 0]):=RZ.out
  clear OW0 OWk
  obtain ⟨e0,e1,e2,e3,el⟩:=RX.out.cells4
  by_cases hlt:kk < k
  ·have hltz:(kk:Int) < (k:Int):=by omega
   go_wp2_with fail
   refine wp_region_L (fun w'=>Row w' (w.heap.size+1) 42 [.int .i64 W,.int .i64 Hh,.int .i64 e,.slice XA kk xc]) [8,9,10] (by kernel_rfl) (by exact RX.out.drew) (fun hHeld=>?_)
   have HROWd:=hiD hHeld
   have HPd:Hid (POwn wr.drew (w.heap.size+2) (.slice XA kk xc) M gs (List.replicate kk (List.replicate M 0#64))):=OW.drew
   have HRZd:Hid (Row wr.drew w.heap.size 42 [.int .i64 0,.int .i64 0,.int .i64 0,.slice none 0 0]):=RZ.out.drew
   have BWd:Hid (Below w.heap.size w wr.drew):=BW.out.drew
   have hszd:Hid (w.heap.size+2≤wr.drew.heap.size):=hsz.out
   clear RX OW RZ BW hsz e0 e1 e2 e3 el
   revert hHeld HROWd HPd HRZd BWd hszd
   generalize wr.drew=wQ
   intro hHeld HROWd HPd HRZd BWd hszd
   have hszq:=hszd.out
   refine lPureW 0 ?va1 rfl (by rfl) ?ya1 ?ra1
   case ya1=>intro w' hSw;clear hSw;go_simp;try (with_reducible rfl)
   go_simp
   refine lPureW 2 ?va2 rfl (by rfl) ?ya2 ?ra2
   case ya2=>intro w' hSw;clear hSw;go_simp;try (with_reducible rfl)
   go_simp
   refine lPureW 3 ?va3 rfl (by rfl) ?ya3 ?ra3
   case ya3=>intro w' hSw;clear hSw;go_simp;try (with_reducible rfl)
   go_simp
   refine lTakeW 1 ?va4 [[8],[9],[10]] rfl (by rfl) ?ya4 hHeld ?ra4
   case ya4=>
    intro w' hSw
    have hSh:=hiD hSw
    clear hSw
    obtain ⟨z0,z1,z2,z3,zl⟩:=hSh.out.cells4
    go_simp
    try (with_reducible rfl)
   go_simp
   refine restL_one (i:=4) (by kernel_rfl) rfl (fun K hK=>?_)
   go_simp
   go_at_call 44
   refine (words_any W wQ (by omega)).mono ?_
   rw [HNN.out]
   rintro e4 w4 ⟨rfl,rfl⟩
   refine hK.out _ _ (fun _=>?keep) (fun hHeld=>?_)
   case keep=>exact HROWd.out
   have hHeld:=hHeld rfl
   clear hK K
   try go_simp
   refine lPureW 5 ?va5 rfl (by rfl) ?ya5 ?ra5
   case ya5=>intro w' hSw;clear hSw;go_simp;try (with_reducible rfl)
   go_simp
   refine restL_one (i:=6) (by kernel_rfl) rfl (fun K hK=>?_)
   go_simp
   refine hK.out _ _ (fun _=>?keep) (fun hHeld=>?_)
   case keep=>exact HROWd.out.alloc _
   have hHeld:=hHeld rfl
   clear hK K
   try go_simp
   refine restL_one (i:=7) (by kernel_rfl) rfl (fun K hK=>?_)
   go_simp
   refine hK.out _ _ (fun _=>?keep) (fun hHeld=>?_)
   case keep=>exact (HROWd.out.alloc _).alloc _
   have hHeld:=hHeld rfl
   clear hK K
   try go_simp
   refine restL_one (i:=8) (by kernel_rfl) rfl (fun K hK=>?_)
   refine step_app rfl (.tmp 18) (.tmp 24) 40 rfl (w.heap.size+2) 67 (.slice none 0 0) 1 24 Try.underlying40 row_infoP rfl (by decide) (by decide) (.slice XA kk xc) kk (gs.map (gcell M)) rfl ?own (wQ.heap.size+1+1) (some ⟨wQ.heap.size+1,0,none⟩) 1 1 [gcell M wQ.heap.size] rfl ?rd ?one ?hb ?hbase ?_
   case own=>exact (by have:=HPd.out.own;rw [List.length_replicate] at this;exact (this.alloc _).alloc _)
   case rd=>exact (by have h:=Rd.lit (wQ.alloc (.cells (likeRow (Value.int .u64 0) M) 66)) #[gcell M wQ.heap.size] 67 (sz:=1) (m:=1) rfl;rw [World.size_alloc] at h;exact h)
   case one=>first | (intro u hu;simp at hu;subst hu;rfl) | rfl
   case hb=>omega
   case hbase=>first | (simp;omega) | omega
   intro v' w' hown' hgrow' hat'
   obtain ⟨VA,vc,rfl,_⟩:=Rd.own hown'
   have HROWq:Hid (Row w' (w.heap.size+1) 42 [.int .i64 W,.int .i64 Hh,.int .i64 e,.slice XA kk xc]):=((HROWd.out.alloc _).alloc _).grown hgrow' (fun e=>own_ne_row HPd.out.own HROWd.out (by decide) e.symm)
   have HRZq:Hid (Row w' w.heap.size 42 [.int .i64 0,.int .i64 0,.int .i64 0,.slice none 0 0]):=((HRZd.out.alloc _).alloc _).grown hgrow' (fun e=>own_ne_row HPd.out.own HRZd.out (by decide) e.symm)
   have BWq:Hid (Below w.heap.size w w'):=((BWd.out.alloc (by omega) _).alloc (by simp;omega) _).grown hgrow' (by simp;omega) (fun k hk=>by have:=(HPd.out.own.lt k hk).1;omega)
   have hszq2:Hid (w.heap.size+2≤w'.heap.size):=(by show _≤_;have:=hgrow'.size;simp at this;omega)
   have HPq:Hid (POwn w' (w.heap.size+2) (.slice VA (kk+1) vc) M (gs ++ [wQ.heap.size]) (List.replicate (kk+1) (List.replicate M 0#64))):=(by show POwn _ _ _ _ _ _;rw [List.replicate_succ'];exact HPd.out.push ((blankRow wQ M).alloc _) List.length_replicate hszd.out (((Below.refl _ _).alloc (Nat.le_refl _) _).alloc (by simp) _) hgrow' (by rw [List.length_replicate];exact hown'))
   have q3:=HROWq.out.cell 3
   have qf:=HROWq.out.frozen 3
   have ql:=HROWq.out.lt
   simp only [List.getElem?_cons_zero,List.getElem?_cons_succ] at q3
   clear hown' hgrow' hat' hHeld HROWd HPd HRZd BWd hszd hszq
   refine hK.out _ _ (fun h=>absurd h (by decide)) (fun _=>?_)
   clear hK K
   try go_simp
   refine lPureW 9 ?va6 rfl (by rfl) ?ya6 ?ra6
   case ya6=>intro w' hSw;clear hSw;go_simp;try (with_reducible rfl)
   go_simp
   refine restL_one (i:=10) (by kernel_rfl) rfl (fun K hK=>?_)
   go_simp
   refine hK.out _ _ (fun h=>absurd h (by decide)) (fun _=>?_)
   clear hK K
   try go_simp
   refine restL_done (by kernel_rfl) ?_ _
   have HX8:Hid (Row (World.setCell w' ⟨w.heap.size+1,3,none⟩ (.slice VA (kk+1) vc)) (w.heap.size+1) 42 [.int .i64 W,.int .i64 Hh,.int .i64 e,.slice VA (kk+1) vc]):=HROWq.out.set 3 _
   have HB8:Hid (Below w.heap.size w (World.setCell w' ⟨w.heap.size+1,3,none⟩ (.slice VA (kk+1) vc))):=BWq.out.setCell (p:=⟨w.heap.size+1,3,none⟩) (Nat.le_succ _) _
   have HS8:Hid (w.heap.size+2≤(World.setCell w' ⟨w.heap.size+1,3,none⟩ (.slice VA (kk+1) vc)).heap.size):=(by show _≤_;rw [World.size_setCell];exact hszq2.out)
   have HZ8:Hid (Row (World.setCell w' ⟨w.heap.size+1,3,none⟩ (.slice VA (kk+1) vc)) w.heap.size 42 [.int .i64 0,.int .i64 0,.int .i64 0,.slice none 0 0]):=HRZq.out.far (p:=⟨w.heap.size+1,3,none⟩) (by show w.heap.size≠w.heap.size+1;omega) _
   have HP8:Hid (POwn (World.setCell w' ⟨w.heap.size+1,3,none⟩ (.slice VA (kk+1) vc)) (w.heap.size+2) (.slice VA (kk+1) vc) M (gs ++ [wQ.heap.size]) (List.replicate (kk+1) (List.replicate M 0#64))):=HPq.out.far1 (p:=⟨w.heap.size+1,3,none⟩) HROWq.out (by decide) (by show w.heap.size+1 < w.heap.size+2;omega) _
   clear HROWq HRZq BWq hszq2 HPq q3 qf ql
   revert HX8 HB8 HS8 HZ8 HP8
   generalize World.setCell w' ⟨w.heap.size+1,3,none⟩ (.slice VA (kk+1) vc)=w8
   intro HX8 HB8 HS8 HZ8 HP8
   go_wp2
   go_roundg (k - (kk+1))
   case measure=>omega
   case rel=>exact ⟨kk+1,.slice VA (kk+1) vc,gs ++ [wQ.heap.size],by omega,by omega,by go_num,HB8.out,HS8.out,HZ8.out,HX8.out,HP8.out⟩
  ·have hltz:¬ (kk:Int) < (k:Int):=by omega
   obtain rfl:kk=k:=by omega
   obtain ⟨d0,d1,d2,d3,dl⟩:=RZ.out.cells4
   obtain ⟨f0,f1,f2,f3⟩:=RZ.out.froz4
   go_wp2
   obtain ⟨hbl,RZ4,_⟩:=put4 (.int .i64 W) (.int .i64 Hh) (.int .i64 e) (.slice XA kk xc) RZ.out (Nat.le_refl w.heap.size) BW.out
   have hpo:=(OW.far4 (.int .i64 W) (.int .i64 Hh) (.int .i64 e) (.slice XA kk xc) RZ.out (by decide) (by omega)).base (Nat.le_add_right w.heap.size 2)
   have r0:=RZ4.cell 0
   have r1:=RZ4.cell 1
   have r2:=RZ4.cell 2
   have r3:=RZ4.cell 3
   simp only [List.getElem?_cons_zero,List.getElem?_cons_succ] at r0 r1 r2 r3
   clear RZ4
   revert hbl hpo r0 r1 r2 r3
   generalize World.setCell (World.setCell (World.setCell (World.setCell wr ⟨w.heap.size,0,none⟩ (.int .i64 W)) ⟨w.heap.size,1,none⟩ (.int .i64 Hh)) ⟨w.heap.size,2,none⟩ (.int .i64 e)) ⟨w.heap.size,3,none⟩ (.slice XA kk xc)=wz
   intro hbl hpo r0 r1 r2 r3
   exact bodyPost_ret (v:=.agg #[.int .i64 W,.int .i64 Hh,.int .i64 e,.slice XA kk xc]) (by simp [results,Try.results43,go_sem,r0,r1,r2,r3]) rfl ⟨XA,xc,gs,rfl,hpo,hbl⟩
end Go.Proofs.Ytiemhbogbaamlaa
